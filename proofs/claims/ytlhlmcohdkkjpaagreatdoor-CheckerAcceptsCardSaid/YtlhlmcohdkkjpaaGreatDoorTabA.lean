/- The table deBruijn64tab, the one variable that this row lays, as the world of a call holds it; how a law that the quick interpreter answers is proved of every world. -/
import Derived.Test.YtlhlmcohdkkjpaaGreatDoorRows
import Derived.Test.YtlhlmcohdkkjpaaGreatDoorQpB
import Derived.Lib.SmallJoins
import Derived.LaidMore
import Derived.Stop.Joined
import Derived.HandedShaped
set_option linter.all false
set_option maxRecDepth 100000
namespace Go.Proofs.YtlhlmcohdkkjpaaGreatDoor
open Go.ChangeShapes Go.WideShapes Go.ChangeAt Go.RowKit Go.WideMaps Go.WideElems
theorem LL:ownKnob Tryz.prog.godebug=none:=by kernel_rfl
theorem eD:laidOutB Tryz.prog=true:=by kernel_rfl
theorem mixed:Tryz.prog.follows .mixedOrders=true:=by kernel_rfl
theorem qh1 : Tryz.prog.funcs.toList.all (fun fn => !(fn.name == "runtime.NumGoroutine")) = true := by kernel_rfl
theorem ua:Ev.Bj Tryz.prog:=fun f fn hf=>by
 have h:=Z6.1 qh1 fn (by
  rw[←iM]at hf
  exact Mk hf)
 simpa using h
def bQ:List Int:= [0,1,56,2,57,49,28,3,61,58,42,50,38,29,17,4,62,47,59,36,45,43,51,22,53,39,33,30,24,18,12,5,63,55,48,27,60,41,37,16,46,35,44,21,52,32,23,11,54,26,40,15,34,20,31,10,25,14,19,9,13,8,7,6]
variable{nx:Nat}{H:Type}{W:World}
def lits :List (DataW H):=bQ.map (fun n=> .lit (.int .u8 n))
theorem AB :(Rows.laid_math_bits_deBruijn64tab:DataW H)= .agg lits:=rfl
abbrev sH : List (String × DataW H) := [("math/bits.deBruijn64tab", Rows.laid_math_bits_deBruijn64tab)]
theorem qp1 : Tryz.prog.globalNamed "math/bits.deBruijn64tab" = some 0 := by kernel_rfl
theorem qz0:(Tryz.prog.globals[0]?).map (·.type)=some 326:=by kernel_rfl
theorem XY:Tryz.prog.globals.size=1:=by kernel_rfl
theorem XV:(((begin Tryz.prog (fun _ _=>0) default).world.heap[0]?).bind Obj.row?).map (fun x=>(x.1.size,x.2))=some (64,326):=by kernel_rfl
theorem NJ (os:Os)(args:Array Value):laidMetH Tryz.prog sH ((World.doorLaid Tryz.prog 400 os).forCall (fun _ _=>0) ⟨#[],args,[]⟩).memory:=
 laidMetH_of_parts3 (fuel:=8) (laidMet_of_run' 8 (by kernel_rfl) (by kernel_rfl)) (by kernel_rfl) (by kernel_rfl)
def QD (W:World):Prop:= ∃C,W.heap[0]? =some (.cells C 326 (0,0))∧C.size=64∧ ∀(j:Nat) (n:Int),bQ[j]? =some n→C[j]? =some (Value.int .u8 n)
theorem qg2 (h:laidMetH Tryz.prog sH W)(hs:W.ShapedOpen Tryz.prog):QD W:=by
 rw[MakeChecks.laidMetH_plain _ _ _ (by kernel_rfl)]at h;obtain⟨ps,⟨g0,t0,cs0,f0,p0,q0,hg0,o6,hv0,hd0,_,_⟩,_,_⟩:=h;obtain rfl:=Z3 (qp1.symm.trans hg0);obtain rfl:=Z3 (qz0.symm.trans o6);obtain⟨xs,m1,rfl,hx1,hlen,hn3,hel⟩:=DataW.trod_array Tryz.underlying326 hd0;have c3:Tryz.prog.cellsOf 5=1:=by kernel_rfl
 rw[AB]at hx1;simp only[Prod.mk.injEq,DataW.agg.injEq]at hx1
 -- the block
 have Z8: ∃zero,((begin Tryz.prog (fun _ _=>0) default).world.heap[0]?).bind Obj.row? =some (zero,326)∧zero.size=64:=by
  cases hr:((begin Tryz.prog (fun _ _=>0) default).world.heap[0]?).bind Obj.row? with
  | none=>have:=XV;rw[hr]at this;cases this
  | some x=>
   have:=XV;rw[hr]at this;obtain⟨z,t⟩:=x;simp at this;exact⟨z,by rw[this.2],this.1⟩
 obtain⟨zero,aX,Vp⟩:=Z8;obtain⟨cs,Gb,Cr,_⟩:=hs.1 0 zero 326 (by rw[XY];omega) aX
 have hv : World.var? Tryz.prog W "math/bits.deBruijn64tab" = some cs := by
  simp only[World.var?,qp1,Option.bind_some,Gb]
 obtain rfl:cs0=cs:=Z3 (hv0.symm.trans hv);refine⟨cs0,Gb,Cr.trans Vp,fun j n hn=> ?_⟩
 have hj:j<64:=by
  have:=(U4.1 hn).1;exact this
 have h0:=hel j hj;have hjx:j<xs.length:=by omega
 have hxj:xs[j]? =some xs[j]:=j6 hjx;have hm:(xs[j]?).map (fun x=>x.1)=(lits:List (DataW Unit))[j]? :=by rw[hx1.1,Jq]
 have hl:(lits:List (DataW Unit))[j]? =some (.lit (.int .u8 n)):=by simp[lits,hn]
 rw[hl,hxj]at hm;rw[hxj]at h0;obtain⟨k,e1,e2,_⟩:=DataW.trod_int Tryz.underlying5 h0;rw[c3,Sc]at e1
 have hk:k=n:=by
  rw[e2]at hm;simpa using hm
 subst hk
 have h1:cs0.toList[j]? =some (.int .u8 k):=by
  have h2:(List.take 1 (List.drop j cs0.toList))[0]? =some (.int .u8 k):=by rw[e1];rfl
  rw[List.getElem?_take_of_lt (by omega),tC,Jp]at h2;exact h2
 rw[←iM];exact h1
noncomputable def iA:Ev.v5:= .cells 326 64 (Ev.wr .nil 0 (bQ.map (Ev.At.int .u8)))
noncomputable def H0:Ev.Tr Ev.v5:=(Ev.Tr.nil).put (some iA) 0
def FM (args:List Value):Ev.Env:=⟨fun b=>if b<1 then some (b,0)else none,fun _=>0,fun i=>args[i]?,fun _=>none⟩
theorem zO {b:Nat}{o:Ev.v5}(h:H0.get b=some o):b=0∧o=iA:=by
 unfold H0 at h;rw[Ev.Tr.F7]at h;by_cases e:b=0
 ·rw[x9 e]at h;cases h;exact⟨e,rfl⟩
 ·rw[z9 e,Ev.Tr.E5]at h;cases h
theorem VJ:H0.get 0=some iA:=by unfold H0;rw[Ev.Tr.V2]
theorem RY (h:QD W)(args:List Value): ∃co,W.heap[0]? =some co∧iA.Rel (FM args) 0 (0,0) co:=by
 obtain⟨C,h1,h2,h3⟩:=h;refine⟨_,h1,C,rfl,rfl,h2,fun i hi=> ?_⟩;obtain⟨n,hn⟩: ∃n,bQ[i]? =some n:=⟨bQ[i]'(by exact hi),j6 _⟩;refine⟨.int .u8 n,.int .u8 n,?_,rfl,by rw[O3];exact h3 i n hn⟩;rw[Ev.nQ,x9 (by simp;exact hi)];simp[hn]
theorem qb0 (h:QD W)(args:List Value){j5:Nat}(hnx:1≤nx)(Cu:args.length≤nx):Ev.Ek (FM args) H0.get W H0.get nx j5:=by
 refine⟨fun _ _ h=>h,⟨fun b o hb=> ?_,fun b b' B B' hb Pm _ _ _=> ?_⟩,fun b h1 _=>⟨?_,?_,rfl⟩⟩
 ·obtain⟨rfl,rfl⟩:=zO hb;obtain⟨co,h1,h2⟩:=RY h args;exact⟨(0,0),co,rfl,h1,h2⟩
 ·have key: ∀b,H0.get b≠none→b=0:=fun b hb=>by
   cases ho:H0.get b with
   | none=>exact absurd ho hb
   | some o=>exact(zO ho).1
  rw[key b hb,key b' Pm]
 ·show(if b<1 then some (b,0)else none)=none;rw[z9 (by omega)]
 ·exact Ra (by omega)
theorem qu8 (args:List Value):(FM args).Bn Tryz.prog:=fun g hg=>by
 rw[XY]at hg;show(if g<1 then some (g,0)else none)=some (g,0);rw[x9 hg]
noncomputable def GY (r:Ev.CR):Bool:=match r with
 | .ok (.b true) H _=>Ev.xX (H.get 0) (some iA)
 | _=>false
theorem qh6 {hk:Ev.Zm}(hh:Ev.Ey Tryz.prog hk){n f:Nat}{args:List Ev.FV}{xs:List Ev.V}(CB:Ev.Kz args=some xs)(hr:GY ((Ev.XA Tryz.prog hk n).c f args H0 nx)=true){vs:List Value}
  (Yx:Ev.VL (FM vs) xs vs) (hnx:1≤nx) (Cu:vs.length≤nx) {W:World} (hT:QD W):Calls Tryz.prog f ⟨vs⟩ W (fun e W'=>e= .returned (.bool true)∧Below W.heap.size W W'):=by
 unfold GY at hr;split at hr
 ·rename_i H' j5 he;obtain⟨x,hx,_,d,hc⟩:=(Ev.zE ua mixed hh n).c _ _ _ _ _ _ _ he xs CB;cases hx;refine(hc (FM vs) H0.get W vs (qb0 hT vs hnx Cu) Yx (qu8 vs)).mono ?_;rintro e W' ⟨cv,o7,rfl,hv,s⟩
  have hcv:cv= .bool true:=by
   have:=Ev.l6.1 hv;simp only[Ev.At.j2]at this;exact(Z3 this).symm
  subst hcv;refine⟨rfl,s.fr.os,s.fr.tape,s.fr.output,s.fr.size,fun k hk=> ?_⟩;by_cases h0:k=0
  ·subst h0
   have wT:Ev.Mz H0.get H0.get H'.get nx j5 0=some iA:=by
    rw[Ev.Y2 (.inl (by rw[VJ];simp)),Ev.Uf hr]
   obtain⟨B,co,hB,hco,hrel⟩:=s.rh.live 0 iA wT;have WY:o7.m5 0=some (0,0):=(s.le.m5 0 (0,0) rfl).1;rw[WY]at hB;cases hB;obtain⟨C,rfl,_,Cr,zD⟩:=hrel;obtain⟨D,hD,hDs,hDc⟩:=hT;rw[hD,hco]
   congr 2
   apply Array.ext
   ·rw[Cr,hDs]
   ·intro i hi1 CL;obtain⟨n,hn⟩: ∃n,bQ[i]? =some n:=⟨bQ[i]'(by rw[Cr]at hi1;exact hi1),j6 _⟩;obtain⟨a,v,h1,h2,h3⟩:=zD i (by omega);rw[Ev.nQ,x9 (by rw[Cr]at hi1;simp;exact hi1)]at h1;simp[hn]at h1;subst h1;simp only[Ev.At.j2]at h2;cases h2;have h4:=hDc i n hn;rw[O3]at h3;have e1:C[i]? =some C[i]:=Array.getElem?_eq_getElem hi1;have e2:D[i]? =some D[i]:=Array.getElem?_eq_getElem CL;rw[e1]at h3;rw[e2]at h4;rw[Z3 h3,Z3 h4]
  ·refine s.fr.xZ k hk (fun hi=> ?_);obtain⟨b,B,hb,hB,rfl⟩:=hi
   cases ho:H0.get b with
   | none=>exact hb ho
   | some o=>
    obtain⟨rfl,_⟩:=zO ho;cases hB;exact h0 rfl
 ·cases hr
theorem handed {enc:TypeId×Value→H}{a:Assume}{os:Os}{f:FuncId}{fn:Func}{s:ChangeSpec}{conds:List PathCond}{apart fresh handsOn again:Bool}{X:World→Array Value→Prop}
  (hX: ∀(w w':World) (args:Array Value),w.heap=w'.heap→X w args→X w' args) (started:os.Started) (qh2:Tryz.checked.prog.inits.idxOf? f=none) (xH:Tryz.checked.prog.funcs[f]? =some fn)
  (witness: ∃(w:World) (tape:Tape) (i:Input),w.os=os∧(w.forCall tape i).Shaped Tryz.checked.prog∧i.vars= []∧Input.okWide Tryz.checked.prog (w.forCall tape i) .any w.heap.size f i∧
   ((s.pre enc Tryz.checked.prog fn conds apart (w.forCall tape i).memory i.args∧X (w.forCall tape i).memory i.args)∧sizedMet enc Tryz.checked.prog fn (OpenSpec.ofChange s) apart (w.forCall tape i).memory i.args)∧a.holds Tryz.checked.prog (lone (Frame.enter Tryz.checked.prog f i.args .normal) [] (w.forCall tape i)))
  (NL: ∀(W:World) (base:Nat) (args:Array Value) (ds gs:List (DataW H)) (before:List MemPlace),
   (∀(j:Nat) t v,fn.params[j]? =some t→args[j]? =some v→Value.okWide Tryz.checked.prog W .any base t v)→DataW.Whole enc Tryz.checked.prog fn.params.toList s.vars apart W args.toList ds gs before→X W args→W.ShapedOpen Tryz.checked.prog→
   Calls Tryz.checked.prog f args W fun e W'=> ∃v,e= .returned v∧s.post enc Tryz.checked.prog fn apart fresh handsOn again W args v W'):
  ReturnsInHanded a Tryz.checked os f .any (fun w args=>(s.pre enc Tryz.checked.prog fn conds apart w args∧X w args)∧sizedMet enc Tryz.checked.prog fn (OpenSpec.ofChange s) apart w args) (s.post enc Tryz.checked.prog fn apart fresh handsOn again):=by
 refine returnsInHanded_of_calls LL started qh2 witness (fun w tape i _ shape _ ok0 qb0 _=> ?_);obtain⟨_,_,_,fn1,ze2,_,_,_,_,qt2⟩:=ok0;obtain rfl:fn1=fn:=Z3 (ze2.symm.trans xH);obtain⟨⟨⟨ds,gs,before,whole,_⟩,hx⟩,_⟩:=qb0;have qf8:=DataW.Whole.of_heap (w':=w.forCall tape i) (by rfl) whole;refine(NL (w.forCall tape i) w.heap.size i.args ds gs before qt2 qf8 (hX _ _ _ (by rfl) hx) shape).mono ?_;rintro e W' ⟨v,rfl,post⟩;exact ChangeSpec.post_blind post
end Go.Proofs.YtlhlmcohdkkjpaaGreatDoor
