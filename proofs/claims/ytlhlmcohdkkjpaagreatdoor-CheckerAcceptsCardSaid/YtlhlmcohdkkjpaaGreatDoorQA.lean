/- A quick interpreter for the kernel, first part: frames of 64 slots by rows, with a trie behind them. No program in sight. -/
import Derived.Test.YtlhlmcohdkkjpaaGreatDoorEvD
set_option linter.all false
namespace Go.Proofs.YtlhlmcohdkkjpaaGreatDoor.Ev
open Go
noncomputable section
inductive FV where
 | no
 | i (n:Nat)
 | u (n:Nat)
 | b (x:Bool)
 | p (b o:Nat)
 | a (x:At)
 | v (x:V)
def FV.J4:FV→Option V
 | .no=>none
 | .i n=>some (.one (.int .i64 (.ofNat n)))
 | .u n=>some (.one (.int .u64 (.ofNat n)))
 | .b x=>some (.one (.bool x))
 | .p y o=>some (.one (.ptr y o))
 | .a x=>some (.one x)
 | .v x=>some x
structure R8 where
 mk::(a0 a1 a2 a3 a4 a5 a6 a7:FV)
structure Fm where
 mk::(r0 r1 r2 r3 r4 r5 r6 r7:R8) (more:Tr V)
inductive RR where
 | no
 | ok (fr:Fm) (H:Tr v5) (nx:Nat)
def Fm.Uq (f:Fm)(t:Tr V):Fm:=Fm.rec (motive:=fun _=>Fm) (fun r0 r1 r2 r3 r4 r5 r6 r7 m=> .mk r0 r1 r2 r3 r4 r5 r6 r7 t) f
def R8.none:R8:= .mk .no .no .no .no .no .no .no .no
def Fm.none:Fm:= .mk R8.none R8.none R8.none R8.none R8.none R8.none R8.none R8.none .nil
inductive D5 where
 | s (g:Fm→FV)
 | t (n:Nat)
 | k (v:FV)
inductive N7 where
 | no
 | s (g:FV→Fm→(Fm→RR)→RR)
 | t (n:Nat)
variable{α:Type}
def QY (x0 x1 x2 x3 x4 x5 x6 x7:α)(i:I8):α:=I8.rec (motive:=fun _=>α) x0 x1 x2 x3 x4 x5 x6 x7 i
def pc0 (v:FV)(r:R8)(k:R8→RR):RR:=R8.rec (motive:=fun _=>RR) (fun a0 a1 a2 a3 a4 a5 a6 a7=>k (.mk v a1 a2 a3 a4 a5 a6 a7)) r
def pc1 (v:FV)(r:R8)(k:R8→RR):RR:=R8.rec (motive:=fun _=>RR) (fun a0 a1 a2 a3 a4 a5 a6 a7=>k (.mk a0 v a2 a3 a4 a5 a6 a7)) r
def pc2 (v:FV)(r:R8)(k:R8→RR):RR:=R8.rec (motive:=fun _=>RR) (fun a0 a1 a2 a3 a4 a5 a6 a7=>k (.mk a0 a1 v a3 a4 a5 a6 a7)) r
def pc3 (v:FV)(r:R8)(k:R8→RR):RR:=R8.rec (motive:=fun _=>RR) (fun a0 a1 a2 a3 a4 a5 a6 a7=>k (.mk a0 a1 a2 v a4 a5 a6 a7)) r
def pc4 (v:FV)(r:R8)(k:R8→RR):RR:=R8.rec (motive:=fun _=>RR) (fun a0 a1 a2 a3 a4 a5 a6 a7=>k (.mk a0 a1 a2 a3 v a5 a6 a7)) r
def pc5 (v:FV)(r:R8)(k:R8→RR):RR:=R8.rec (motive:=fun _=>RR) (fun a0 a1 a2 a3 a4 a5 a6 a7=>k (.mk a0 a1 a2 a3 a4 v a6 a7)) r
def pc6 (v:FV)(r:R8)(k:R8→RR):RR:=R8.rec (motive:=fun _=>RR) (fun a0 a1 a2 a3 a4 a5 a6 a7=>k (.mk a0 a1 a2 a3 a4 a5 v a7)) r
def pc7 (v:FV)(r:R8)(k:R8→RR):RR:=R8.rec (motive:=fun _=>RR) (fun a0 a1 a2 a3 a4 a5 a6 a7=>k (.mk a0 a1 a2 a3 a4 a5 a6 v)) r
def pr0 (c:FV→R8→(R8→RR)→RR)(v:FV)(f:Fm)(k:Fm→RR):RR:=Fm.rec (motive:=fun _=>RR) (fun r0 r1 r2 r3 r4 r5 r6 r7 m=>c v r0 (fun r=>k (.mk r r1 r2 r3 r4 r5 r6 r7 m))) f
def pr1 (c:FV→R8→(R8→RR)→RR)(v:FV)(f:Fm)(k:Fm→RR):RR:=Fm.rec (motive:=fun _=>RR) (fun r0 r1 r2 r3 r4 r5 r6 r7 m=>c v r1 (fun r=>k (.mk r0 r r2 r3 r4 r5 r6 r7 m))) f
def pr2 (c:FV→R8→(R8→RR)→RR)(v:FV)(f:Fm)(k:Fm→RR):RR:=Fm.rec (motive:=fun _=>RR) (fun r0 r1 r2 r3 r4 r5 r6 r7 m=>c v r2 (fun r=>k (.mk r0 r1 r r3 r4 r5 r6 r7 m))) f
def pr3 (c:FV→R8→(R8→RR)→RR)(v:FV)(f:Fm)(k:Fm→RR):RR:=Fm.rec (motive:=fun _=>RR) (fun r0 r1 r2 r3 r4 r5 r6 r7 m=>c v r3 (fun r=>k (.mk r0 r1 r2 r r4 r5 r6 r7 m))) f
def pr4 (c:FV→R8→(R8→RR)→RR)(v:FV)(f:Fm)(k:Fm→RR):RR:=Fm.rec (motive:=fun _=>RR) (fun r0 r1 r2 r3 r4 r5 r6 r7 m=>c v r4 (fun r=>k (.mk r0 r1 r2 r3 r r5 r6 r7 m))) f
def pr5 (c:FV→R8→(R8→RR)→RR)(v:FV)(f:Fm)(k:Fm→RR):RR:=Fm.rec (motive:=fun _=>RR) (fun r0 r1 r2 r3 r4 r5 r6 r7 m=>c v r5 (fun r=>k (.mk r0 r1 r2 r3 r4 r r6 r7 m))) f
def pr6 (c:FV→R8→(R8→RR)→RR)(v:FV)(f:Fm)(k:Fm→RR):RR:=Fm.rec (motive:=fun _=>RR) (fun r0 r1 r2 r3 r4 r5 r6 r7 m=>c v r6 (fun r=>k (.mk r0 r1 r2 r3 r4 r5 r r7 m))) f
def pr7 (c:FV→R8→(R8→RR)→RR)(v:FV)(f:Fm)(k:Fm→RR):RR:=Fm.rec (motive:=fun _=>RR) (fun r0 r1 r2 r3 r4 r5 r6 r7 m=>c v r7 (fun r=>k (.mk r0 r1 r2 r3 r4 r5 r6 r m))) f
def PY (t:Nat)(p:Fm→R8):Option (Fm→FV):=QY (some fun f=>(p f).1) (some fun f=>(p f).2) (some fun f=>(p f).3) (some fun f=>(p f).4) (some fun f=>(p f).5) (some fun f=>(p f).6) (some fun f=>(p f).7) (some fun f=>(p f).8) (i8 (t % 8))
def FL (t:Nat):Option (Fm→FV):=match Nat.blt t 64 with
 | true=>QY (PY t Fm.r0) (PY t Fm.r1) (PY t Fm.r2) (PY t Fm.r3) (PY t Fm.r4) (PY t Fm.r5) (PY t Fm.r6) (PY t Fm.r7) (i8 (t / 8))
 | false=>none
def PG (t:Nat)(p:(FV→R8→(R8→RR)→RR)→FV→Fm→(Fm→RR)→RR):Option (FV→Fm→(Fm→RR)→RR):=QY (some (p pc0)) (some (p pc1)) (some (p pc2)) (some (p pc3)) (some (p pc4)) (some (p pc5)) (some (p pc6)) (some (p pc7)) (i8 (t % 8))
def du (t:Nat):Option (FV→Fm→(Fm→RR)→RR):=match Nat.blt t 64 with
 | true=>QY (PG t pr0) (PG t pr1) (PG t pr2) (PG t pr3) (PG t pr4) (PG t pr5) (PG t pr6) (PG t pr7) (i8 (t / 8))
 | false=>none
def FV.ofInt (k:IntKind):Int→FV:=
 IntKind.rec (motive:=fun _=>Int→FV) (fun n=> .a (.int .i8 n)) (fun n=> .a (.int .i16 n)) (fun n=> .a (.int .i32 n)) (fun n=>Int.rec (motive:=fun _=>FV) (fun m=> .i m) (fun m=> .a (.int .i64 (.negSucc m))) n) (fun n=> .a (.int .u8 n)) (fun n=> .a (.int .u16 n)) (fun n=> .a (.int .u32 n)) (fun n=>Int.rec (motive:=fun _=>FV) (fun m=> .u m) (fun m=> .a (.int .u64 (.negSucc m))) n) k
def FV.RC (x:At):FV:=At.rec (motive:=fun _=>FV) (fun y=> .b y) (fun k n=>FV.ofInt k n) (fun l=> .a (.str l)) (fun y o=> .p y o) (.a .nilp) (fun y o n c=> .a (.sl y o n c)) (fun y o n e=> .a (.slx y o n e)) (.a .nils) (fun y=> .a (.map y)) (.a .nilm) (fun f l m=> .a (.fn f l m)) (fun l=> .a (.yld l)) (.a .nilf) (.a .nili) (fun m=> .a (.opq m)) (fun m=> .a (.emp m)) x
def FV.zb1 (y:At)(l:List At):FV:=List.rec (motive:=fun _=>FV) (FV.RC y) (fun z m _=> .v (.c false (y::z::m))) l
def FV.ofL (l:List At):FV:=List.rec (motive:=fun _=>FV) (.v (.c false [])) (fun y m _=>FV.zb1 y m) l
def FV.ofC (g:Bool):List At→FV:=Bool.rec (motive:=fun _=>List At→FV) FV.ofL (fun l=> .v (.c true l)) g
def FV.BZ (x:V):FV:=V.rec (motive:=fun _=>FV) FV.ofC (fun l=> .v (.tup l)) x
def FV.VR (x:Option V):FV:=Option.rec (motive:=fun _=>FV) .no FV.BZ x
def FV.ofA (x:Option At):FV:=Option.rec (motive:=fun _=>FV) .no FV.RC x
def zb0 (t:Nat):Option (Fm→FV)→D5
 | some g=> .s g
 | none=> .t t
def Tc (t:Nat):D5:=zb0 t (FL t)
def G2 (P:Program):Operand→D5
 | .tmp t=>Tc t
 | .const v=> .k (FV.VR (B9 P .nil (.const v)))
 | .global g=> .k (FV.VR (B9 P .nil (.global g)))
 | .func f=> .k (FV.VR (B9 P .nil (.func f)))
def qp4 (t:Nat):Option (FV→Fm→(Fm→RR)→RR)→N7
 | some g=> .s g
 | none=> .t t
def p6:Option Tmp→N7
 | none=> .no
 | some t=>qp4 t (du t)
def P9 (n:Nat)(f:Fm):FV:=FV.VR (f.more.get n)
def D5.get (x:D5):Fm→FV:=D5.rec (motive:=fun _=>Fm→FV) (fun g=>g) P9 (fun v _=>v) x
def An (n:Nat)(v:FV)(f:Fm)(k:Fm→RR):RR:=k (Fm.Uq f (f.more.put v.J4 n))
def Rn (v:FV)(f:Fm)(k:Fm→RR):RR:=k f
def N7.Bs (d:N7):FV→Fm→(Fm→RR)→RR:=
 N7.rec (motive:=fun _=>FV→Fm→(Fm→RR)→RR) Rn (fun g=>g) An d
def Fm.val (f:Fm)(t:Nat):Option V:=((Tc t).get f).J4
def A8 (n:Nat)(k:Nat→RR):RR:=Nat.rec (motive:=fun _=>RR) (k 0) (fun m _=>k (Nat.succ m)) n
def FV.jJ (v:FV):(FV→RR)→RR→RR:=
 FV.rec (motive:=fun _=>(FV→RR)→RR→RR) (fun _ s=>s) (fun n k _=>A8 n (fun m=>k (.i m))) (fun n k _=>A8 n (fun m=>k (.u m))) (fun x k _=>Bool.rec (k (.b false)) (k (.b true)) x) (fun b o k _=>A8 b (fun b=>A8 o (fun o=>k (.p b o)))) (fun x k _=>k (.a x)) (fun x k _=>k (.v x)) v
def Dc (H:Tr v5)(k:Tr v5→RR):RR:=Tr.rec (motive:=fun _=>RR) (k .nil) (fun v c0 c1 c2 c3 c4 c5 c6 c7 _ _ _ _ _ _ _ _=>k (.node v c0 c1 c2 c3 c4 c5 c6 c7)) H
end
noncomputable section
abbrev KK:=Fm→Tr v5→Nat→RR
inductive CR where
 | no
 | ok (v:FV) (H:Tr v5) (nx:Nat)
structure QF where
 f:xC
 c:FuncId→List FV→Tr v5→Nat→CR
def Lo (n:Nat):FV:=Bool.rec .no (.i n) (Nat.ble n 9223372036854775807)
def zg2 (a b:Nat):FV:=Lo (Nat.add a b)
def qa1 (a b:Nat):FV:=Bool.rec .no (Lo (Nat.sub a b)) (Nat.ble b a)
def zb6 (a b:Nat):FV:=Lo (Nat.mul a b)
def qa8 (a b:Nat):FV:=Bool.rec (Lo (Nat.div a b)) .no (Nat.beq b 0)
def qa6 (a b:Nat):FV:=Bool.rec (.i (Nat.mod a b)) .no (Nat.beq b 0)
def qm0 (a b:Nat):FV:= .b (Nat.ble (Nat.succ a) b)
def qm2 (a b:Nat):FV:= .b (Nat.ble a b)
def qo9 (a b:Nat):FV:= .b (Nat.ble (Nat.succ b) a)
def qp0 (a b:Nat):FV:= .b (Nat.ble b a)
def qp2 (a b:Nat):FV:= .b (Nat.beq a b)
def dg (a b:Nat):FV:=Bool.rec (.b true) (.b false) (Nat.beq a b)
def gM (_ _:Nat):FV:= .no
def zg1 (a b:Nat):FV:= .u (Nat.mod (Nat.add a b) 18446744073709551616)
def qa0 (a b:Nat):FV:=Bool.rec .no (.u (Nat.mod (Nat.sub a b) 18446744073709551616)) (Nat.ble b a)
def zb5 (a b:Nat):FV:= .u (Nat.mod (Nat.mul a b) 18446744073709551616)
def qa7 (a b:Nat):FV:=Bool.rec (.u (Nat.mod (Nat.div a b) 18446744073709551616)) .no (Nat.beq b 0)
def qa5 (a b:Nat):FV:=Bool.rec (.u (Nat.mod a b)) .no (Nat.beq b 0)
def zg0 (a b:Nat):FV:= .u (Nat.land (Nat.mod a 18446744073709551616) (Nat.mod b 18446744073709551616))
def orU (a b:Nat):FV:= .u (Nat.lor (Nat.mod a 18446744073709551616) (Nat.mod b 18446744073709551616))
def qy9 (a b:Nat):FV:= .u (Nat.xor (Nat.mod a 18446744073709551616) (Nat.mod b 18446744073709551616))
def dq (a b:Nat):FV:=Bool.rec .no (.u (Nat.mod (Nat.mul a (Nat.pow 2 b)) 18446744073709551616)) (Nat.ble b 64)
def ct (a b:Nat):FV:=Bool.rec .no (.u (Nat.div a (Nat.pow 2 b))) (Nat.ble b 64)
structure ER where
 i:Nat→Nat→FV
 u:Nat→Nat→FV
 s:Nat→Nat→FV
def Ns:BinOp→ER
 | .add=>⟨zg2,zg1,gM⟩ | .sub=>⟨qa1,qa0,gM⟩ | .mul=>⟨zb6,zb5,gM⟩ | .quo=>⟨qa8,qa7,gM⟩ | .rem=>⟨qa6,qa5,gM⟩
 | .and=>⟨gM,zg0,gM⟩ | .or=>⟨gM,orU,gM⟩ | .xor=>⟨gM,qy9,gM⟩ | .shl=>⟨gM,dq,dq⟩ | .shr=>⟨gM,ct,ct⟩
 | .lss=>⟨qm0,qm0,gM⟩ | .leq=>⟨qm2,qm2,gM⟩ | .gtr=>⟨qo9,qo9,gM⟩ | .geq=>⟨qp0,qp0,gM⟩ | .eql=>⟨qp2,qp2,gM⟩ | .neq=>⟨dg,dg,gM⟩
 | _=>⟨gM,gM,gM⟩
def zf5 (y:FV):Nat→ER→FV:=
 FV.rec (motive:=fun _=>Nat→ER→FV) (fun _ _=> .no) (fun b a g=>g.3 a b) (fun b a g=>g.2 a b) (fun _ _ _=> .no) (fun _ _ _ _=> .no) (fun _ _ _=> .no) (fun _ _ _=> .no) y
def zf6 (y:FV):Nat→ER→FV:=
 FV.rec (motive:=fun _=>Nat→ER→FV) (fun _ _=> .no) (fun b a g=>g.1 a b) (fun _ _ _=> .no) (fun _ _ _=> .no) (fun _ _ _ _=> .no) (fun _ _ _=> .no) (fun _ _ _=> .no) y
def qd3 (x:FV):FV→ER→FV:=
 FV.rec (motive:=fun _=>FV→ER→FV) (fun _ _=> .no) (fun a y g=>zf6 y a g) (fun a y g=>zf5 y a g) (fun _ _ _=> .no) (fun _ _ _ _=> .no) (fun _ _ _=> .no) (fun _ _ _=> .no) x
inductive EqT where
 | ptr
 | sl
 | no
inductive Cl where
 | mv (d:N7) (x:D5)
 | bin (d:N7) (g:ER) (x y:D5) (o:Oper)
 | eq (d:N7) (neg:Bool) (e:EqT) (x y:D5) (o:Oper)
 | ld (d:N7) (x:D5) (g:Bool) (n:Nat) (o:Oper)
 | fa (d:N7) (x:D5) (off:Nat) (o:Oper)
 | ia (d:N7) (x y:D5) (l:Option Nat) (sz:Nat) (o:Oper)
 | pk (d:N7) (c a b:D5) (o:Oper)
 | nc (d:N7) (x:D5) (o:Oper)
 | ln (d:N7) (x:D5) (o:Oper)
 | nt (d:N7) (x:D5) (o:Oper)
 | cv (d:N7) (k:IntKind) (x:D5) (o:Oper)
 | st (a x:D5) (n:Nat) (d:N7) (o:Oper)
 | bx (d:N7) (t:TypeId) (x:D5) (o:Oper)
 | al (d:N7) (w:v5) (o:Oper)
 | ca (d:N7) (f:FuncId) (xs:List D5) (o:Oper)
 | ex (d:N7) (x:D5) (i:Nat) (o:Oper)
 | gen (o:Oper)
 | grd (s:D5) (want:Bool) (d:N7) (c:Cl)
def sO (P:Program)(s:TypeId)(f:Nat):Option Nat:=
 match P.underlying s with
 | some (.struct fs)=>match fs.toList[f]? with
  | some fd=>match P.info? fd.type with
   | some i=>bif Nat.beq i.size 0 then none else some fd.offset
   | none=>none
  | none=>none
 | _=>none
def EY (P:Program)(t:TypeId):Option (Option Nat×Nat):=
 match P.underlying t with
 | some (.slice e)=>match P.info? e with | some ie=>some (none,ie.size) | none=>none
 | some (.array l e)=>match P.info? e with | some ie=>some (some l,ie.size) | none=>none
 | _=>none
def Ot (P:Program)(t:TypeId):Bool:=
 match P.underlying t with | some (.slice _)=>true | _=>false
def OQ (P:Program)(t:TypeId):EqT:=
 match P.underlying t with | some (.pointer _)=> .ptr | some (.slice _)=> .sl | _=> .no
def FO (P:Program)(s t:TypeId):Option IntKind:=
 match P.underlying s,P.underlying t with
 | some _,some (.int k)=>some k
 | _,_=>none
def rN (P:Program):List Operand→List D5
 | []=> []
 | x::l=>G2 P x::rN P l
def cl (P:Program)(o:Oper):Cl:=
 match o.op with
 | .move x=> .mv (p6 o.dst) (G2 P x)
 | .assign x=> .mv (p6 o.dst) (G2 P x)
 | .binOp op t x y _=>match op with
  | .eql=>match OQ P t with | .no=> .bin (p6 o.dst) (Ns .eql) (G2 P x) (G2 P y) o | e=> .eq (p6 o.dst) false e (G2 P x) (G2 P y) o
  | .neq=>match OQ P t with | .no=> .bin (p6 o.dst) (Ns .neq) (G2 P x) (G2 P y) o | e=> .eq (p6 o.dst) true e (G2 P x) (G2 P y) o
  | op=> .bin (p6 o.dst) (Ns op) (G2 P x) (G2 P y) o
 | .load t a=>match Xx P t with | some (g,n)=> .ld (p6 o.dst) (G2 P a) g n o | none=> .gen o
 | .store t a x=>match P.info? t with | some ti=> .st (G2 P a) (G2 P x) ti.size (p6 o.dst) o | none=> .gen o
 | .box t x=> .bx (p6 o.dst) t (G2 P x) o
 | .alloc t=>match Nn P t with | some (_,z)=> .al (p6 o.dst) (mk t z) o | none=> .gen o
 | .fieldAddr s x f=>match sO P s f with | some off=> .fa (p6 o.dst) (G2 P x) off o | none=> .gen o
 | .indexAddr t x i=>match EY P t with | some (l,sz)=> .ia (p6 o.dst) (G2 P x) (G2 P i) l sz o | none=> .gen o
 | .pick c a b=> .pk (p6 o.dst) (G2 P c) (G2 P a) (G2 P b) o
 | .nilCheck x=> .nc (p6 o.dst) (G2 P x) o
 | .extract x i=> .ex (p6 o.dst) (G2 P x) i o
 | .unOp op _ x=>match op with | .not=> .nt (p6 o.dst) (G2 P x) o | _=> .gen o
 | .convert s t x=>match FO P s t with | some k=> .cv (p6 o.dst) k (G2 P x) o | none=> .gen o
 | .call c=>match c.callee with
  | .builtin .len=>match c.args.toList,c.argTypes.toList with
   | [x],t::_=>match Ot P t with | true=> .ln (p6 o.dst) (G2 P x) o | false=> .gen o
   | _,_=> .gen o
  | .value (.func f)=> .ca (p6 o.dst) f (rN P c.args.toList) o
  | _=> .gen o
 | _=> .gen o
def gd (P:Program)(ops:Array Oper)(o:Oper):Cl:=
 match o.guard with
 | none=>cl P o
 | some (j,want)=>match ops[j]? with
  | some oj=>match oj.dst with
   | some d=> .grd (Tc d) want (p6 o.dst) (cl P o)
   | none=> .gen o
  | none=> .gen o
def x_ (P:Program)(ops:Array Oper):List Oper→List Cl
 | []=> []
 | o::l=>gd P ops o::x_ P ops l
def We (f:Fm):List Tmp→Tr V
 | []=> .nil
 | t::l=>match f.val t with
  | some v=>(We f l).put (some v) t
  | none=>We f l
def IM (F:xC)(P:Program)(ops:Array Oper)(o:Oper)(tm:Tr V)(H:Tr v5)(nx:Nat):Option (V×Tr v5×Nat):=
 match G7 ops o tm with
 | some true=>match Oc o.op with | true=>evB F P o tm H nx | false=>vm P o tm H nx
 | some false=>some (V.undef,H,nx)
 | none=>none
def YT (d:N7)(fr:Fm)(k:KK):Option (V×Tr v5×Nat)→RR
 | some (v,H',j5)=>Dc H' fun H'=>A8 j5 fun j5=>FV.jJ (FV.BZ v) (fun x=>d.Bs x fr fun M4=>k M4 H' j5) .no
 | none=> .no
def Tn (Q:QF)(P:Program)(ops:Array Oper)(fr:Fm)(H:Tr v5)(nx:Nat)(k:KK)(o:Oper):RR:=
 YT (p6 o.dst) fr k (IM Q.f P ops o (We fr (o.looksAt ops)) H nx)
def cN (t:Tr At)(a m:Nat):FV:=Bool.rec .no (FV.ofA (t.get a)) (Nat.ble (Nat.succ a) m)
def qj5 (x:Option (List At)):FV:=Option.rec (motive:=fun _=>FV) .no (fun l=> .v (.c true l)) x
def zL (t:Tr At)(a n m:Nat):FV:=Bool.rec .no (qj5 (rd t a n)) (Nat.ble (Nat.add a n) m)
def jv (g:Bool):Tr At→Nat→Nat→Nat→FV:=Bool.rec (motive:=fun _=>Tr At→Nat→Nat→Nat→FV) (fun t a _ m=>cN t a m) zL g
def zb2 (x:v5):Bool→Nat→Nat→FV:=
 v5.rec (motive:=fun _=>Bool→Nat→Nat→FV) (fun _ m t g n a=>jv g t a n m) (fun _ m _ t g n a=>jv g t a n m) (fun _ m t g n a=>jv g t a n m) (fun _ _ _ _ _=> .no) (fun _ _ _ _ _ _ _ _ _ _ _=> .no) (fun _ _ _=> .no) (fun _ _ _ _=> .no) x
def I2 (g:Bool)(n:Nat)(H:Tr v5)(b a:Nat):FV:=Option.rec (motive:=fun _=>Bool→Nat→Nat→FV) (fun _ _ _=> .no) zb2 (H.get b) g n a
def FV.Ng (v:FV):(Nat→Nat→RR)→RR→RR:=
 FV.rec (motive:=fun _=>(Nat→Nat→RR)→RR→RR) (fun _ s=>s) (fun _ _ s=>s) (fun _ _ s=>s) (fun _ _ s=>s) (fun b o k _=>k b o) (fun _ _ s=>s) (fun _ _ s=>s) v
def sP (b o i l sz:Nat):FV:=Bool.rec .no (.p b (Nat.add o (Nat.mul i sz))) (Nat.ble (Nat.succ i) l)
def zc0 (x:At):Nat→Nat→FV:=
 At.rec (motive:=fun _=>Nat→Nat→FV) (fun _ _ _=> .no) (fun _ _ _ _=> .no) (fun _ _ _=> .no) (fun _ _ _ _=> .no) (fun _ _=> .no) (fun b o l _ i sz=>sP b o i l sz) (fun b o l _ i sz=>sP b o i l sz) (fun _ _=> .no) (fun _ _ _=> .no) (fun _ _=> .no) (fun _ _ _ _ _=> .no) (fun _ _ _=> .no) (fun _ _=> .no) (fun _ _=> .no) (fun _ _ _=> .no) (fun _ _ _=> .no) x
def iaS (x:FV):Nat→Nat→FV:=
 FV.rec (motive:=fun _=>Nat→Nat→FV) (fun _ _=> .no) (fun _ _ _=> .no) (fun _ _ _=> .no) (fun _ _ _=> .no) (fun _ _ _ _=> .no) zc0 (fun _ _ _=> .no) x
def iaA (n:Nat)(x:FV):Nat→Nat→FV:=
 FV.rec (motive:=fun _=>Nat→Nat→FV) (fun _ _=> .no) (fun _ _ _=> .no) (fun _ _ _=> .no) (fun _ _ _=> .no) (fun b o i sz=>sP b o i n sz) (fun _ _ _=> .no) (fun _ _ _=> .no) x
def iaL (l:Option Nat):FV→Nat→Nat→FV:=Option.rec (motive:=fun _=>FV→Nat→Nat→FV) iaS iaA l
def iaF (y:FV):Option Nat→Nat→FV→FV:=
 FV.rec (motive:=fun _=>Option Nat→Nat→FV→FV) (fun _ _ _=> .no) (fun i l sz x=>iaL l x i sz) (fun _ _ _ _=> .no) (fun _ _ _ _=> .no) (fun _ _ _ _ _=> .no) (fun _ _ _ _=> .no) (fun _ _ _ _=> .no) y
def pkF (c:FV):FV→FV→FV:=
 FV.rec (motive:=fun _=>FV→FV→FV) (fun _ _=> .no) (fun _ _ _=> .no) (fun _ _ _=> .no) (fun t a b=>Bool.rec b a t) (fun _ _ _ _=> .no) (fun _ _ _=> .no) (fun _ _ _=> .no) c
def ntF (x:FV):FV:=
 FV.rec (motive:=fun _=>FV) .no (fun _=> .no) (fun _=> .no) (fun t=>Bool.rec (.b true) (.b false) t) (fun _ _=> .no) (fun _=> .no) (fun _=> .no) x
def zb8 (x:At):FV:=
 At.rec (motive:=fun _=>FV) (fun _=> .no) (fun _ _=> .no) (fun _=> .no) (fun _ _=> .no) .no (fun _ _ n _=> .i n) (fun _ _ n _=> .i n) (.i 0) (fun _=> .no) .no (fun _ _ _=> .no) (fun _=> .no) .no .no (fun _=> .no) (fun _=> .i 0) x
def qm3 (x:FV):FV:=
 FV.rec (motive:=fun _=>FV) .no (fun _=> .no) (fun _=> .no) (fun _=> .no) (fun _ _=> .no) zb8 (fun _=> .no) x
def cvN (k:IntKind):Nat→FV:=
 IntKind.rec (motive:=fun _=>Nat→FV) (fun _=> .no) (fun _=> .no) (fun _=> .no) Lo (fun n=> .a (.int .u8 (.ofNat (Nat.mod n 256)))) (fun _=> .no) (fun n=> .a (.int .u32 (.ofNat (Nat.mod n 4294967296)))) (fun n=> .u (Nat.mod n 18446744073709551616)) k
def cvI (n:Int):IntKind→FV:=Int.rec (motive:=fun _=>IntKind→FV) (fun m k=>cvN k m) (fun _ _=> .no) n
def cvA (x:At):IntKind→FV:=
 At.rec (motive:=fun _=>IntKind→FV) (fun _ _=> .no) (fun _ n k=>cvI n k) (fun _ _=> .no) (fun _ _ _=> .no) (fun _=> .no) (fun _ _ _ _ _=> .no) (fun _ _ _ _ _=> .no) (fun _=> .no) (fun _ _=> .no) (fun _=> .no) (fun _ _ _ _=> .no) (fun _ _=> .no) (fun _=> .no) (fun _=> .no) (fun _ _=> .no) (fun _ _=> .no) x
def cvF (x:FV):IntKind→FV:=
 FV.rec (motive:=fun _=>IntKind→FV) (fun _=> .no) (fun n k=>cvN k n) (fun n k=>cvN k n) (fun _ _=> .no) (fun _ _ _=> .no) cvA (fun _ _=> .no) x
inductive Nl where
 | no
 | nilp
 | ptr
 | nils
 | sl
def nlA (x:At):Nl:=
 At.rec (motive:=fun _=>Nl) (fun _=> .no) (fun _ _=> .no) (fun _=> .no) (fun _ _=> .ptr) .nilp (fun _ _ _ _=> .sl) (fun _ _ _ _=> .sl) .nils (fun _=> .no) .no (fun _ _ _=> .no) (fun _=> .no) .no .no (fun _=> .no) (fun _=> .sl) x
def NZ (x:FV):Nl:=
 FV.rec (motive:=fun _=>Nl) .no (fun _=> .no) (fun _=> .no) (fun _=> .no) (fun _ _=> .ptr) nlA (fun _=> .no) x
def eqP (x y:Nl):Option Bool:=match x,y with
 | .ptr,.nilp=>some false
 | .nilp,.ptr=>some false
 | _,_=>none
def eqS (x y:Nl):Option Bool:=match x,y with
 | .sl,.nils=>some false
 | .nils,.sl=>some false
 | _,_=>none
def eqF (e:EqT)(neg:Bool)(x y:FV):FV:=
 match(match e with | .ptr=>eqP (NZ x) (NZ y) | .sl=>eqS (NZ x) (NZ y) | .no=>none)with
 | some r=> .b (Bool.xor neg r)
 | none=> .no
def FV.cells (x:FV):Option (List At):=
 FV.rec (motive:=fun _=>Option (List At)) none (fun n=>some [.int .i64 (.ofNat n)]) (fun n=>some [.int .u64 (.ofNat n)]) (fun t=>some [.bool t]) (fun b o=>some [.ptr b o]) (fun y=>some [y]) (fun y=>V.rec (motive:=fun _=>Option (List At)) (fun _ l=>some l) (fun _=>none) y) x
def YA (x:V):Bool:=V.rec (motive:=fun _=>Bool) (fun _ _=>false) (fun _=>true) x
abbrev ClT:=QF→Program→Fm→Tr v5→Nat→KK→(Oper→RR)→RR
def mvQ (d:N7)(x:D5)(Q:QF)(P:Program)(fr:Fm)(H:Tr v5)(nx:Nat)(k:KK)(S:Oper→RR):RR:=
 N7.rec (motive:=fun _=>FV→Fm→(Fm→RR)→RR) Rn (fun g=>g) An d (D5.rec (motive:=fun _=>Fm→FV) (fun g=>g) P9 (fun v _=>v) x fr) fr fun M4=>k M4 H nx
def toQ (v:FV)(d:N7)(fr:Fm)(H:Tr v5)(nx:Nat)(k:KK)(s:RR):RR:=FV.jJ v (fun v=>N7.rec (motive:=fun _=>FV→Fm→(Fm→RR)→RR) Rn (fun g=>g) An d v fr fun M4=>k M4 H nx) s
def qp5 (d:N7)(g:ER)(x y:D5)(o:Oper)(Q:QF)(P:Program)(fr:Fm)(H:Tr v5)(nx:Nat)(k:KK)(S:Oper→RR):RR:=
 toQ (qd3 (D5.rec (motive:=fun _=>Fm→FV) (fun g=>g) P9 (fun v _=>v) x fr) (D5.rec (motive:=fun _=>Fm→FV) (fun g=>g) P9 (fun v _=>v) y fr) g) d fr H nx k (S o)
def eqQ (d:N7)(neg:Bool)(e:EqT)(x y:D5)(o:Oper)(Q:QF)(P:Program)(fr:Fm)(H:Tr v5)(nx:Nat)(k:KK)(S:Oper→RR):RR:=
 toQ (eqF e neg (D5.rec (motive:=fun _=>Fm→FV) (fun g=>g) P9 (fun v _=>v) x fr) (D5.rec (motive:=fun _=>Fm→FV) (fun g=>g) P9 (fun v _=>v) y fr)) d fr H nx k (S o)
def ldQ (d:N7)(x:D5)(g:Bool)(n:Nat)(o:Oper)(Q:QF)(P:Program)(fr:Fm)(H:Tr v5)(nx:Nat)(k:KK)(S:Oper→RR):RR:=
 FV.Ng (D5.rec (motive:=fun _=>Fm→FV) (fun g=>g) P9 (fun v _=>v) x fr) (fun b a=>toQ (I2 g n H b a) d fr H nx k .no) .no
def faQ (d:N7)(x:D5)(off:Nat)(o:Oper)(Q:QF)(P:Program)(fr:Fm)(H:Tr v5)(nx:Nat)(k:KK)(S:Oper→RR):RR:=
 FV.Ng (D5.rec (motive:=fun _=>Fm→FV) (fun g=>g) P9 (fun v _=>v) x fr) (fun b a=>A8 (Nat.add a off) fun a=>N7.rec (motive:=fun _=>FV→Fm→(Fm→RR)→RR) Rn (fun g=>g) An d (.p b a) fr fun M4=>k M4 H nx) .no
def iaQ (d:N7)(x y:D5)(l:Option Nat)(sz:Nat)(o:Oper)(Q:QF)(P:Program)(fr:Fm)(H:Tr v5)(nx:Nat)(k:KK)(S:Oper→RR):RR:=
 toQ (iaF (D5.rec (motive:=fun _=>Fm→FV) (fun g=>g) P9 (fun v _=>v) y fr) l sz (D5.rec (motive:=fun _=>Fm→FV) (fun g=>g) P9 (fun v _=>v) x fr)) d fr H nx k (S o)
def pkQ (d:N7)(c a b:D5)(o:Oper)(Q:QF)(P:Program)(fr:Fm)(H:Tr v5)(nx:Nat)(k:KK)(S:Oper→RR):RR:=
 toQ (pkF (D5.rec (motive:=fun _=>Fm→FV) (fun g=>g) P9 (fun v _=>v) c fr) (D5.rec (motive:=fun _=>Fm→FV) (fun g=>g) P9 (fun v _=>v) a fr) (D5.rec (motive:=fun _=>Fm→FV) (fun g=>g) P9 (fun v _=>v) b fr)) d fr H nx k .no
def ncQ (d:N7)(x:D5)(o:Oper)(Q:QF)(P:Program)(fr:Fm)(H:Tr v5)(nx:Nat)(k:KK)(S:Oper→RR):RR:=
 FV.Ng (D5.rec (motive:=fun _=>Fm→FV) (fun g=>g) P9 (fun v _=>v) x fr) (fun b a=>N7.rec (motive:=fun _=>FV→Fm→(Fm→RR)→RR) Rn (fun g=>g) An d (.p b a) fr fun M4=>k M4 H nx) (S o)
def lnQ (d:N7)(x:D5)(o:Oper)(Q:QF)(P:Program)(fr:Fm)(H:Tr v5)(nx:Nat)(k:KK)(S:Oper→RR):RR:=
 toQ (qm3 (D5.rec (motive:=fun _=>Fm→FV) (fun g=>g) P9 (fun v _=>v) x fr)) d fr H nx k (S o)
def ntQ (d:N7)(x:D5)(o:Oper)(Q:QF)(P:Program)(fr:Fm)(H:Tr v5)(nx:Nat)(k:KK)(S:Oper→RR):RR:=
 toQ (ntF (D5.rec (motive:=fun _=>Fm→FV) (fun g=>g) P9 (fun v _=>v) x fr)) d fr H nx k (S o)
def cvQ (d:N7)(kd:IntKind)(x:D5)(o:Oper)(Q:QF)(P:Program)(fr:Fm)(H:Tr v5)(nx:Nat)(k:KK)(S:Oper→RR):RR:=
 toQ (cvF (D5.rec (motive:=fun _=>Fm→FV) (fun g=>g) P9 (fun v _=>v) x fr) kd) d fr H nx k (S o)
variable{α:Type}
def EW (x:Option α)(k:α→RR)(s:RR):RR:=Option.rec (motive:=fun _=>RR) s k x
def Wd (n:Nat)(H:Tr v5)(b a:Nat)(x:FV):Option (Tr v5):=
 match x.cells with
 | some l=>match H.get b with
  | some o=>match Nat.beq l.length n,put o a l with
   | true,some o'=>some (H.put (some o') b)
   | _,_=>none
  | none=>none
 | none=>none
def stQ (a x:D5)(n:Nat)(d:N7)(o:Oper)(Q:QF)(P:Program)(fr:Fm)(H:Tr v5)(nx:Nat)(k:KK)(S:Oper→RR):RR:=
 FV.Ng (D5.rec (motive:=fun _=>Fm→FV) (fun g=>g) P9 (fun v _=>v) a fr) (fun b i=>EW (Wd n H b i (D5.rec (motive:=fun _=>Fm→FV) (fun g=>g) P9 (fun v _=>v) x fr)) (fun H'=>Dc H' fun H'=>N7.rec (motive:=fun _=>FV→Fm→(Fm→RR)→RR) Rn (fun g=>g) An d (.v V.undef) fr fun M4=>k M4 H' nx) .no) .no
def qb4 (w:v5)(d:N7)(fr:Fm)(H:Tr v5)(nx:Nat)(k:KK):RR:=
 Dc (H.put (some w) nx) fun H'=>N7.rec (motive:=fun _=>FV→Fm→(Fm→RR)→RR) Rn (fun g=>g) An d (.p nx 0) fr fun M4=>k M4 H' (Nat.succ nx)
def bxQ (d:N7)(t:TypeId)(x:D5)(o:Oper)(Q:QF)(P:Program)(fr:Fm)(H:Tr v5)(nx:Nat)(k:KK)(S:Oper→RR):RR:=
 EW (D5.rec (motive:=fun _=>Fm→FV) (fun g=>g) P9 (fun v _=>v) x fr).cells (fun l=>qb4 (mk t l) d fr H nx k) .no
def alQ (d:N7)(w:v5)(o:Oper)(Q:QF)(P:Program)(fr:Fm)(H:Tr v5)(nx:Nat)(k:KK)(S:Oper→RR):RR:=
 qb4 w d fr H nx k
def cK (xs:List D5):Fm→(List FV→RR)→RR:=
 List.rec (motive:=fun _=>Fm→(List FV→RR)→RR) (fun _ k=>k []) (fun x _ ih fr k=>FV.jJ (D5.rec (motive:=fun _=>Fm→FV) (fun g=>g) P9 (fun v _=>v) x fr) (fun v=>ih fr fun vs=>k (v::vs)) .no) xs
def crK (r:CR):N7→Fm→KK→RR:=
 CR.rec (motive:=fun _=>N7→Fm→KK→RR) (fun _ _ _=> .no) (fun v H nx d fr k=>Dc H fun H=>A8 nx fun nx=>FV.jJ v (fun v=>N7.rec (motive:=fun _=>FV→Fm→(Fm→RR)→RR) Rn (fun g=>g) An d v fr fun M4=>k M4 H nx) .no) r
def caQ (d:N7)(f:FuncId)(xs:List D5)(o:Oper)(Q:QF)(P:Program)(fr:Fm)(H:Tr v5)(nx:Nat)(k:KK)(S:Oper→RR):RR:=
 cK xs fr fun vs=>crK (Q.c f vs H nx) d fr k
def exT (v:V)(i:Nat):FV:=FV.VR (Kk v i)
def exF (x:FV):Nat→FV:=
 FV.rec (motive:=fun _=>Nat→FV) (fun _=> .no) (fun _ _=> .no) (fun _ _=> .no) (fun _ _=> .no) (fun _ _ _=> .no) (fun _ _=> .no) exT x
def exQ (d:N7)(x:D5)(i:Nat)(o:Oper)(Q:QF)(P:Program)(fr:Fm)(H:Tr v5)(nx:Nat)(k:KK)(S:Oper→RR):RR:=
 toQ (exF (D5.rec (motive:=fun _=>Fm→FV) (fun g=>g) P9 (fun v _=>v) x fr) i) d fr H nx k .no
def zf2 (o:Oper)(Q:QF)(P:Program)(fr:Fm)(H:Tr v5)(nx:Nat)(k:KK)(S:Oper→RR):RR:=S o
def jW (d:N7)(fr:Fm)(H:Tr v5)(nx:Nat)(k:KK):RR:=N7.rec (motive:=fun _=>FV→Fm→(Fm→RR)→RR) Rn (fun g=>g) An d (.v V.undef) fr fun M4=>k M4 H nx
def gdK (v:FV):Bool→RR→RR→RR:=
 FV.rec (motive:=fun _=>Bool→RR→RR→RR) (fun _ _ _=> .no) (fun _ _ _ _=> .no) (fun _ _ _ _=> .no) (fun x w a s=>Bool.rec (Bool.rec a s w) (Bool.rec s a w) x) (fun _ _ _ _ _=> .no) (fun _ _ _ _=> .no) (fun x _ _ s=>Bool.rec .no s (YA x)) v
def zf0 (s:D5)(want:Bool)(d:N7)(c:Cl)(ih:ClT)(Q:QF)(P:Program)(fr:Fm)(H:Tr v5)(nx:Nat)(k:KK)(S:Oper→RR):RR:=
 gdK (D5.rec (motive:=fun _=>Fm→FV) (fun g=>g) P9 (fun v _=>v) s fr) want (ih Q P fr H nx k S) (jW d fr H nx k)
def bP (c:Cl):ClT:=Cl.rec (motive:=fun _=>ClT) mvQ qp5 eqQ ldQ faQ iaQ pkQ ncQ lnQ ntQ cvQ stQ bxQ alQ caQ exQ zf2 zf0 c
abbrev QT:=QF→Program→Array Oper→Fm→Tr v5→Nat→RR
def za5 (Q:QF)(P:Program)(ops:Array Oper)(fr:Fm)(H:Tr v5)(nx:Nat):RR:= .ok fr H nx
def qs7 (g:Cl)(l:List Cl)(ih:QT)(Q:QF)(P:Program)(ops:Array Oper)(fr:Fm)(H:Tr v5)(nx:Nat):RR:=
 bP g Q P fr H nx (ih Q P ops) (Tn Q P ops fr H nx (ih Q P ops))
def dv (l:List Cl):QT:=List.rec (motive:=fun _=>QT) za5 qs7 l
end
noncomputable section
abbrev mO:=Nat×List Nat
abbrev KD:=List Sp→List mO→KK
def bV (a j:Nat):Bool:=Bool.rec true false (Nat.beq (Nat.land 1 (Nat.shiftRight a j)) 0)
def Qt (s:Sp)(Mx:List Nat):Bool:=match s.QB with
 | false=>iJ s.iF Mx
 | true=>Ob s Mx
def rS (a:Nat)(Mx:List Nat):List Sp→Bool
 | []=>true
 | m::l=>match bV a m.idx || Qt m Mx with | true=>rS a Mx l | false=>false
def nj (a:Nat)(s:Sp):List Sp→Bool
 | []=>true
 | m::l=>match bV a m.idx || O6 m s with | true=>nj a s l | false=>false
def ny (a:Nat)(s:Sp):List mO→Bool
 | []=>true
 | e::l=>match bV a e.1 || Qt s e.2 with | true=>ny a s l | false=>false
def sS (a:Nat)(Mx:List Nat)(l:List Sp):Bool:=List.rec (motive:=fun _=>Bool) true (fun m l _=>rS a Mx (m::l)) l
def A6 (s:Sp):Bool:=match s.iF,s.QB with
 | [],false=>true
 | _,_=>false
def jw (d:N7)(fr:Fm)(v:V)(s:Sp)(k:KK):RR:=
 Dc s.H' fun H'=>A8 s.j5 fun j5=>FV.jJ (FV.BZ v) (fun x=>d.Bs x fr fun M4=>k M4 H' j5) .no
def YU (a i:Nat)(ms:List Sp)(ls:List mO)(d:N7)(fr:Fm)(k:KD):Option (V×Sp)→RR
 | some (v,s)=>match A6 s with
  | true=>match rS a s.Mx ms with
   | true=>jw d fr v s (k ms ((i,s.Mx)::ls))
   | false=> .no
  | false=>match nj a s ms&&ny a s ls with
   | true=>jw d fr v s (k (s::ms) ls)
   | false=> .no
 | none=> .no
def Xy (Q:QF)(P:Program)(ops:Array Oper)(A:List Nat)(a i:Nat)(ms:List Sp)(ls:List mO)(fr:Fm)(H:Tr v5)(nx:Nat)(k:KD)(o:Oper):RR:=
 YU a i ms ls (p6 o.dst) fr k (Tf Q.f P A i ms o (We fr (o.looksAt ops)) H nx)
abbrev qS:=QF→Program→Array Oper→List Nat→Nat→Nat→List Sp→List mO→Fm→Tr v5→Nat→KD→RR
def qK (f:ClT)(Q:QF)(P:Program)(ops:Array Oper)(A:List Nat)(a i:Nat)(ms:List Sp)(ls:List mO)(fr:Fm)(H:Tr v5)(nx:Nat)(k:KD):RR:=
 f Q P fr H nx (k ms ls) (Xy Q P ops A a i ms ls fr H nx k)
def ldD (d:N7)(x:D5)(g:Bool)(n:Nat)(o:Oper)(Q:QF)(P:Program)(ops:Array Oper)(A:List Nat)(a i:Nat)(ms:List Sp)(ls:List mO)(fr:Fm)(H:Tr v5)(nx:Nat)(k:KD):RR:=
 FV.Ng (x.get fr) (fun b f=>Bool.rec .no (toQ (I2 g n H b f) d fr H nx (k ms ((i,[b])::ls)) .no) (sS a [b] ms)) .no
def Tm (o:Oper)(Q:QF)(P:Program)(ops:Array Oper)(A:List Nat)(a i:Nat)(ms:List Sp)(ls:List mO)(fr:Fm)(H:Tr v5)(nx:Nat)(k:KD):RR:=Xy Q P ops A a i ms ls fr H nx k o
def mvS (d:N7)(x:D5)(Q:QF)(P:Program)(fr:Fm)(H:Tr v5)(nx:Nat)(k:KK)(S:Oper→RR):RR:=toQ (x.get fr) d fr H nx k .no
def mvD (d:N7)(x:D5):qS:=qK (mvS d x)
def zf7 (d:N7)(g:ER)(x y:D5)(o:Oper):qS:=qK (qp5 d g x y o)
def eqD (d:N7)(neg:Bool)(e:EqT)(x y:D5)(o:Oper):qS:=Tm o
def faD (d:N7)(x:D5)(off:Nat)(o:Oper):qS:=qK (faQ d x off o)
def iaD (d:N7)(x y:D5)(l:Option Nat)(sz:Nat)(o:Oper):qS:=qK (iaQ d x y l sz o)
def pkD (d:N7)(c a b:D5)(o:Oper):qS:=qK (pkQ d c a b o)
def ncD (d:N7)(x:D5)(o:Oper):qS:=qK (ncQ d x o)
def lnD (d:N7)(x:D5)(o:Oper):qS:=Tm o
def ntD (d:N7)(x:D5)(o:Oper):qS:=Tm o
def cvD (d:N7)(kd:IntKind)(x:D5)(o:Oper):qS:=Tm o
def stD (a x:D5)(n:Nat)(d:N7)(o:Oper):qS:=Tm o
def bxD (d:N7)(t:TypeId)(x:D5)(o:Oper):qS:=Tm o
def alD (d:N7)(w:v5)(o:Oper):qS:=Tm o
def caD (d:N7)(f:FuncId)(xs:List D5)(o:Oper):qS:=Tm o
def exD (d:N7)(x:D5)(i:Nat)(o:Oper):qS:=qK (exQ d x i o)
def zf1 (s:D5)(want:Bool)(d:N7)(c:Cl)(ih:qS)(Q:QF)(P:Program)(ops:Array Oper)(A:List Nat)(a i:Nat)(ms:List Sp)(ls:List mO)(fr:Fm)(H:Tr v5)(nx:Nat)(k:KD):RR:=
 gdK (s.get fr) want (ih Q P ops A a i ms ls fr H nx k) (jW d fr H nx (k ms ls))
def rL (c:Cl):qS:=Cl.rec (motive:=fun _=>qS) mvD zf7 eqD ldD faD iaD pkD ncD lnD ntD cvD stD bxD alD caD exD Tm zf1 c
inductive DCl where
 | mk (c:Cl) (a:Nat)
def gdD (P:Program)(ops:Array Oper)(o:Oper):Cl:=
 match o.guard with
 | none=>cl P o
 | some (j,want)=>match ops[j]? with
  | some oj=>match oj.dst with
   | some d=> .grd (Tc d) want (p6 o.dst) (cl P o)
   | none=> .mv .no (.k .no)
  | none=> .mv .no (.k .no)
def Td (P:Program)(ops:Array Oper)(A:List Nat):Nat→List Oper→List DCl
 | _,[]=> []
 | i,o::l=> .mk (gdD P ops o) (A.getD i 0)::Td P ops A (i+1) l
abbrev DT:=QF→Program→Array Oper→List Nat→Nat→List Sp→List mO→Fm→Tr v5→Nat→RR
def zf4 (Q:QF)(P:Program)(ops:Array Oper)(A:List Nat)(i:Nat)(ms:List Sp)(ls:List mO)(fr:Fm)(H:Tr v5)(nx:Nat):RR:= .ok fr H nx
def qv1 (g:DCl)(l:List DCl)(ih:DT)(Q:QF)(P:Program)(ops:Array Oper)(A:List Nat)(i:Nat)(ms:List Sp)(ls:List mO)(fr:Fm)(H:Tr v5)(nx:Nat):RR:=
 DCl.rec (motive:=fun _=>RR) (fun c a=>rL c Q P ops A a i ms ls fr H nx (ih Q P ops A (Nat.succ i))) g
def tz (l:List DCl):DT:=List.rec (motive:=fun _=>DT) zf4 qv1 l
def zH (ops:Array Oper):Bool:=Um 0 ops.toList&&dA ops (Mt ops.toList []) 0 ops.toList
def ur (Q:QF)(P:Program)(ops:Array Oper)(fr:Fm)(H:Tr v5)(nx:Nat):RR:=
 Bool.rec (motive:=fun _=>RR) .no (tz (Td P ops (Mt ops.toList []) 0 ops.toList) Q P ops (Mt ops.toList []) 0 [] [] fr H nx) (zH ops)
end
noncomputable section
inductive QR where
 | no
 | ok (ex:Ex) (fr:Fm) (H:Tr v5) (nx:Nat) (ds:List Nat)
abbrev CT:=QF→Program→Nat→Fm→Tr v5→Nat→List Nat→QR
abbrev CK:=Fm→Tr v5→Nat→List Nat→QR
def Fm.trN (f:Fm):Nat→Tr V
 | 0=>f.more
 | n+1=>(Fm.trN f n).put (f.val n) n
def Fm.tr (f:Fm):Tr V:=Fm.trN f 64
def PZ (t:Tr V)(n:Nat):FV:=FV.VR (t.get n)
def iB (t:Tr V)(n:Nat):R8:= .mk (PZ t n) (PZ t (n+1)) (PZ t (n+2)) (PZ t (n+3)) (PZ t (n+4)) (PZ t (n+5)) (PZ t (n+6)) (PZ t (n+7))
def Fm.qb2 (t:Tr V):Fm:= .mk (iB t 0) (iB t 8) (iB t 16) (iB t 24) (iB t 32) (iB t 40) (iB t 48) (iB t 56) t
def EV (r:RR):List Nat→QR:=RR.rec (motive:=fun _=>List Nat→QR) (fun _=> .no) (fun fr H nx ds=> .ok .normal fr H nx ds) r
def qg1 (ex:Ex):Fm→Tr v5→Nat→List Nat→CK→QR:=
 Ex.rec (motive:=fun _=>Fm→Tr v5→Nat→List Nat→CK→QR) (fun fr H nx ds k=>k fr H nx ds) (fun i fr H nx ds _=> .ok (.exit i) fr H nx ds) (fun l fr H nx ds _=> .ok (.goto l) fr H nx ds) (fun fr H nx ds _=> .ok .ret fr H nx ds) ex
def sE (r:QR):CK→QR:=QR.rec (motive:=fun _=>CK→QR) (fun _=> .no) qg1 r
def UP (ex:Ex):Fm→Tr v5→Nat→List Nat→Nat→QR:=
 Ex.rec (motive:=fun _=>Fm→Tr v5→Nat→List Nat→Nat→QR) (fun fr H nx ds _=> .ok .normal fr H nx ds) (fun i fr H nx ds id=>Bool.rec (.ok (.exit i) fr H nx ds) (.ok .normal fr H nx ds) (Nat.beq i id)) (fun l fr H nx ds _=> .ok (.goto l) fr H nx ds) (fun fr H nx ds _=> .ok .ret fr H nx ds) ex
def JU (r:QR):Nat→QR:=QR.rec (motive:=fun _=>Nat→QR) (fun _=> .no) UP r
def qs9:Res→QR
 | some (ex,tm,H,nx,ds)=> .ok ex (Fm.qb2 tm) H nx ds
 | none=> .no
def um (c:Code)(Q:QF)(P:Program)(nt:Nat)(fr:Fm)(H:Tr v5)(nx:Nat)(ds:List Nat):QR:=
 qs9 (Q.f.code c nt none fr.tr H nx ds)
def qs2 (Q:QF)(P:Program)(nt:Nat)(fr:Fm)(H:Tr v5)(nx:Nat)(ds:List Nat):QR:= .ok .normal fr H nx ds
def za2 (ops:Array Oper)(Q:QF)(P:Program)(nt:Nat)(fr:Fm)(H:Tr v5)(nx:Nat)(ds:List Nat):QR:=EV (dv (x_ P ops ops.toList) Q P ops fr H nx) ds
def za3 (ops:Array Oper)(Q:QF)(P:Program)(nt:Nat)(fr:Fm)(H:Tr v5)(nx:Nat)(ds:List Nat):QR:=EV (ur Q P ops fr H nx) ds
def za4 (id:Nat)(ops:Array Oper)(draw:Bool):CT:=Bool.rec (motive:=fun _=>CT) (za2 ops) (za3 ops) draw
def qz9 (a b:Code)(qa qb:CT)(Q:QF)(P:Program)(nt:Nat)(fr:Fm)(H:Tr v5)(nx:Nat)(ds:List Nat):QR:=sE (qa Q P nt fr H nx ds) (qb Q P nt)
def YQ (v:FV):CK→CK→CK:=
 FV.rec (motive:=fun _=>CK→CK→CK) (fun _ _ _ _ _ _=> .no) (fun _ _ _ _ _ _ _=> .no) (fun _ _ _ _ _ _ _=> .no) (fun x a b=>Bool.rec b a x) (fun _ _ _ _ _ _ _ _=> .no) (fun _ _ _ _ _ _ _=> .no) (fun _ _ _ _ _ _ _=> .no) v
def qv3 (x:Operand)(a b:Code)(qa qb:CT)(Q:QF)(P:Program)(nt:Nat)(fr:Fm)(H:Tr v5)(nx:Nat)(ds:List Nat):QR:=YQ (D5.rec (motive:=fun _=>Fm→FV) (fun g=>g) P9 (fun v _=>v) (G2 P x) fr) (qa Q P nt) (qb Q P nt) fr H nx ds
def qj7 (id:Nat)(b:Code)(qb:CT)(Q:QF)(P:Program)(nt:Nat)(fr:Fm)(H:Tr v5)(nx:Nat)(ds:List Nat):QR:=JU (qb Q P nt fr H nx ds) id
def JX (ih:CK)(fr:Fm)(H:Tr v5)(nx:Nat)(ds:List Nat):QR:=ih fr H nx ds
def ue (q:CK)(n:Nat):CK:=Nat.rec (motive:=fun _=>CK) (fun _ _ _ _=> .no) (fun _ ih fr H nx ds=>sE (q fr H nx ds) (JX ih)) n
def qt1 (b:Code)(qb:CT)(Q:QF)(P:Program)(nt:Nat)(fr:Fm)(H:Tr v5)(nx:Nat)(ds:List Nat):QR:=ue (qb Q P nt) 1000000 fr H nx ds
def qg6 (g:Operand)(ps:Array Tmp)(as bo:Code)(_ _:CT):CT:=um (.rangeFunc g ps as bo)
def qu9 (id:Nat)(Q:QF)(P:Program)(nt:Nat)(fr:Fm)(H:Tr v5)(nx:Nat)(ds:List Nat):QR:= .ok (.exit id) fr H nx ds
def qg5 (b:Code)(_:CT):CT:=um (.scope b)
def qh7 (l:Nat)(Q:QF)(P:Program)(nt:Nat)(fr:Fm)(H:Tr v5)(nx:Nat)(ds:List Nat):QR:= .ok .normal fr H nx ds
def qu7 (l:Nat)(Q:QF)(P:Program)(nt:Nat)(fr:Fm)(H:Tr v5)(nx:Nat)(ds:List Nat):QR:= .ok (.goto l) fr H nx ds
def za1 (Q:QF)(P:Program)(nt:Nat)(fr:Fm)(H:Tr v5)(nx:Nat)(ds:List Nat):QR:= .ok .ret fr H nx ds
def SG (s:String)(Q:QF)(P:Program)(nt:Nat)(fr:Fm)(H:Tr v5)(nx:Nat)(ds:List Nat):QR:= .no
def qc (c:Code):CT:=Code.rec (motive:=fun _=>CT) qs2 za4 qz9 qv3 qj7 qt1 qg6 qu9 qg5 qh7 qu7 za1 SG c
def sQ (n:Nat):Option Tmp→Bool
 | none=>true
 | some d=>Nat.blt d n
def O1 (n:Nat):List Oper→Bool
 | []=>true
 | o::l=>match sQ n o.dst with | true=>O1 n l | false=>false
def Cd (n:Nat):Code→Bool
 | .region _ ops _=>O1 n ops.toList
 | .seq a b=>Cd n a&&Cd n b
 | .cond _ a b=>Cd n a&&Cd n b
 | .block _ b=>Cd n b
 | .loop b=>Cd n b
 | _=>true
def qa4 (P:Program)(fr:Fm)(H:Tr v5):ResultVar→Option (Bool×List At)
 | .tmp t=>match fr.val t with
  | some (.c g l)=>some (g,l)
  | _=>none
 | .cell a t=>match fr.val a with
  | some (.c false [p])=>match Gr P H t p with | some (.c g l)=>some (g,l) | _=>none
  | _=>none
def ud (P:Program)(fr:Fm)(H:Tr v5):List ResultVar→Option (List (Bool×List At))
 | []=>some []
 | r::l=>match qa4 P fr H r with
  | some c=>match ud P fr H l with | some cs=>some (c::cs) | none=>none
  | none=>none
inductive Rs where
 | one (x:D5)
 | all (l:List ResultVar)
def rM:List ResultVar→Rs
 | [.tmp t]=> .one (Tc t)
 | l=> .all l
def GZ (v:FV):Tr v5→Nat→CR:=
 FV.rec (motive:=fun _=>Tr v5→Nat→CR) (fun _ _=> .no) (fun n H nx=> .ok (.i n) H nx) (fun n H nx=> .ok (.u n) H nx) (fun x H nx=> .ok (.b x) H nx) (fun b o H nx=> .ok (.p b o) H nx) (fun x H nx=> .ok (.a x) H nx) (fun x H nx=>Bool.rec (.ok (.v x) H nx) .no (YA x)) v
def eA (P:Program)(l:List ResultVar)(fr:Fm)(H:Tr v5)(nx:Nat):CR:=
 match ud P fr H l with
 | some cs=> .ok (FV.BZ (xW cs)) H nx
 | none=> .no
def nK (rs:Rs):Program→Fm→Tr v5→Nat→CR:=
 Rs.rec (motive:=fun _=>Program→Fm→Tr v5→Nat→CR) (fun x P fr H nx=>GZ (D5.rec (motive:=fun _=>Fm→FV) (fun g=>g) P9 (fun v _=>v) x fr) H nx) (fun l P fr H nx=>eA P l fr H nx) rs
def JO (x:Option (Tr v5)):Program→Rs→Fm→Nat→CR:=
 Option.rec (motive:=fun _=>Program→Rs→Fm→Nat→CR) (fun _ _ _ _=> .no) (fun H P rs fr nx=>nK rs P fr H nx) x
def nM (ds:List Nat):Program→Rs→Fm→Tr v5→Nat→CR:=
 List.rec (motive:=fun _=>Program→Rs→Fm→Tr v5→Nat→CR) (fun P rs fr H nx=>nK rs P fr H nx) (fun d l _ P rs fr H nx=>JO (Ld (d::l) H) P rs fr nx) ds
def qv0 (ex:Ex):Fm→Tr v5→Nat→List Nat→Program→Rs→CR:=
 Ex.rec (motive:=fun _=>Fm→Tr v5→Nat→List Nat→Program→Rs→CR) (fun fr H nx ds P rs=>nM ds P rs fr H nx) (fun _ _ _ _ _ _ _=> .no) (fun _ _ _ _ _ _ _=> .no) (fun fr H nx ds P rs=>nM ds P rs fr H nx) ex
def qc9 (r:QR):Program→Rs→CR:=QR.rec (motive:=fun _=>Program→Rs→CR) (fun _ _=> .no) qv0 r
def iD (l:List FV):Nat→FV:=List.rec (motive:=fun _=>Nat→FV) (fun _=> .no) (fun v _ ih n=>Nat.rec v (fun m _=>ih m) n) l
def Eu (l:List FV)(n:Nat):R8:= .mk (iD l n) (iD l (n+1)) (iD l (n+2)) (iD l (n+3)) (iD l (n+4)) (iD l (n+5)) (iD l (n+6)) (iD l (n+7))
def sN (l:List FV):Fm:= .mk (Eu l 0) R8.none R8.none R8.none R8.none R8.none R8.none R8.none .nil
def nR (l:List FV):Fm:= .mk (Eu l 0) (Eu l 8) (Eu l 16) (Eu l 24) (Eu l 32) (Eu l 40) (Eu l 48) (Eu l 56) .nil
inductive Fi where
 | no
 | ok (c:Code) (n:Nat) (rs:Rs)
def fi (P:Program)(f:FuncId):Fi:=
 match P.funcs[f]? with
 | some fn=>match fn.body with
  | some c=>match Cd fn.ntmps c with | true=> .ok c fn.ntmps (rM fn.results.toList) | false=> .no
  | none=> .no
 | none=> .no
def qa3 (m n:Nat)(c:Code)(rs:Rs)(Q:QF)(P:Program)(args:List FV)(H:Tr v5)(nx:Nat):CR:=
 Bool.rec (motive:=fun _=>CR) (Bool.rec (motive:=fun _=>CR) .no (Bool.rec (motive:=fun _=>CR) .no (qc9 (qc c Q P n (nR args) H nx []) P rs) (Nat.ble m 64)) (Nat.ble m n)) (Bool.rec (motive:=fun _=>CR) .no (qc9 (qc c Q P n (sN args) H nx []) P rs) (Nat.ble m n)) (Nat.ble m 8)
def RE (l:List FV):Nat:=List.rec (motive:=fun _=>Nat) 0 (fun _ _ n=>Nat.add n 1) l
def qv5 (i:Fi):QF→Program→List FV→Tr v5→Nat→CR:=
 Fi.rec (motive:=fun _=>QF→Program→List FV→Tr v5→Nat→CR) (fun _ _ _ _ _=> .no) (fun c n rs Q P args H nx=>qa3 (RE args) n c rs Q P args H nx) i
def GR (Q:QF)(P:Program)(f:FuncId)(args:List FV)(H:Tr v5)(nx:Nat):CR:=qv5 (fi P f) Q P args H nx
def qb3:CR→Option (V×Tr v5×Nat)
 | .ok v H nx=>match v.J4 with | some x=>some (x,H,nx) | none=>none
 | .no=>none
def jX:List V→List FV
 | []=> []
 | v::l=>FV.BZ v::jX l
abbrev Zm:=FuncId→List FV→Tr v5→Nat→CR
def YH (r s:CR):CR:=CR.rec (motive:=fun _=>CR) s (fun v H nx=> .ok v H nx) r
def Wg (hk:Zm)(Q:QF)(P:Program)(f:FuncId)(args:List FV)(H:Tr v5)(nx:Nat):CR:=YH (hk f args H nx) (GR Q P f args H nx)
def qs6 (P:Program)(hk:Zm)(Q:QF):QF:=
 ⟨⟨fun c nt ro tm H nx ds=>Y9 Q.f P c nt ro tm H nx ds,fun f args H nx=>qb3 (Wg hk Q P f (jX args) H nx),fun l args H nx=>Wv Q.f l args H nx,fun b r nt ro tm H nx ds=>Wu Q.f b r nt ro tm H nx ds⟩,fun f args H nx=>Wg hk Q P f args H nx⟩
def QF0:QF:=⟨⟨fun _ _ _ _ _ _ _=>none,fun _ _ _ _=>none,fun _ _ _ _=>none,fun _ _ _ _ _ _ _ _=>none⟩,fun _ _ _ _=> .no⟩
def XA (P:Program)(hk:Zm)(n:Nat):QF:=Nat.rec (motive:=fun _=>QF) QF0 (fun _ ih=>qs6 P hk ih) n
def yZ:Zm:=fun _ _ _ _=> .no
end
end Go.Proofs.YtlhlmcohdkkjpaaGreatDoor.Ev
