/- Layer 17: Fine (the document), losses. -/
import Derived.Test.YtlhlmcohdkkjpaaGreatDoorZH
import Derived.Deep.WholeRow
set_option linter.all false
set_option maxHeartbeats 32000000
set_option maxRecDepth 100000
namespace Go.Proofs.YtlhlmcohdkkjpaaGreatDoor
open Go.RowKit
variable{a:Act}{ops:Array Oper}{Q:Exit→Act→World→Prop}{l:List Cx}{g k:Nat}{f:Nat→Int}{o:Oper}{x:Operand}{p:Px}{w:World}
theorem JT (h:Iw l=true): ∀y∈l,2≤y.b∧y.b≤51:=fun y hy=>by
 obtain⟨j,hj⟩:=Gk hy;have:=(Fs.1 h).1 j y hj;unfold Vz at this;simp only[p9,E0]at this;omega
theorem MV (p:Px)(VD VP VL VC v:Value)(l:List Cx)(w:World)(h:K3 w VD VP VL VC p)(hv:Q0 w v l)(V5:P0 p)(T3:l.length≤100000)(J3:J5 p=true):Calls Tryz.prog 29 #[.agg #[VD,VP,VL,VC],v] w fun r w'=>r= .returned (.bool (Iw l&&B5 p l))∧z6 [] w w':=by
 have Zc:=p7 (fun W t=>Hj v l W (hv.q8 t) T3);have HF:=O (fun(hc:Iw l=true) (W:World) (t:z6 [] w W)=>AW p VD VP VL VC v l W (h.q8 t) (hv.q8 t) V5 T3 J3 (fun y hy=>by have:=JT hc y hy;omega));obtain⟨AD,cD,rfl,-,-⟩:=h.d.form;obtain⟨AP,cP,rfl⟩:=h.pr.form;obtain⟨AL,cL,rfl⟩:=h.ld.form;obtain⟨AC,cC,rfl⟩:=h.cp.form;obtain⟨A,cap,rfl⟩:=hv.form;clear h hv J3 V5;have b0:=j4.new w 29 #[.slice AD p.D.length cD,.slice AP p.R.P.length cP,.slice AL p.R.L.length cL,.slice AC p.R.C.length cC];have o6:=(z8 [] w).alloc (.cells #[.slice AD p.D.length cD,.slice AP p.R.P.length cP,.slice AL p.R.L.length cL,.slice AC p.R.C.length cC] 29);generalize hf:B5 p l=fb at*;clear hf
 cases hq:Iw l with
 | false=>
  rw[hq]at Zc;go_enter Tryz.func29,Tryz.ntmps29;go_wp2_with fail;refine(Zc.o _ o6).mono ?_;rintro r w1 ⟨rfl,t1⟩;go_wp2_with fail;go_ret;exact⟨rfl,o6.Y t1⟩
 | true=>
  rw[hq]at Zc;have y5:=O (HF.o hq);clear HF;unfold aU at y5;go_enter Tryz.func29,Tryz.ntmps29;go_wp2_with fail;refine(Zc.o _ o6).mono ?_;rintro r w1 ⟨rfl,t1⟩;obtain⟨k0,k1,k2,k3⟩:=(b0.z7 t1 (by simp)).F2;have J6:=O (o6.Y t1);go_wp2_with fail;refine(y5.o _ J6.o).mono ?_;rintro r w2 ⟨k,i,rfl,h1,h2,t2⟩;have B4:=O (J6.o.Y t2);clear t1 t2
  cases fb with
  | true=>
   obtain⟨rfl,rfl⟩:=h1 rfl;clear h2;go_wp2_with fail;go_ret;exact⟨rfl,B4.o⟩
  | false=>
   have h3:=h2 rfl;have h4:(k==0)=false:=by simpa using h3
   clear h1 h2;go_wp2_with fail;go_ret;exact⟨rfl,B4.o⟩
def U0 (f:Nat→Int):Array Value:=((List.range 512).map (fun i=>Value.int .i64 (f i))).toArray
theorem S0 (f:Nat→Int):(U0 f).size=512:=by simp[U0]
theorem NQ (f:Nat→Int):(U0 f).all (·.oneCell')=true:=by simp[U0,Value.oneCell']
theorem Ds (f:Nat→Int){i:Nat}(h:i<512):(U0 f)[i]? =some (.int .i64 (f i)):=by simp[U0,h]
theorem eU (f:Nat→Int){a:Nat}(v:Int):(U0 f).setIfInBounds a (.int .i64 v)=U0 (fun i=>if i=a then v else f i):=by
 apply Array.ext_getElem?;intro i;rw[qd6];by_cases hi:i<512
 ·have e:=Ds (fun i=>if i=a then v else f i) hi;rw[e];by_cases ha:a=i
  ·subst ha;rw[x9 rfl,x9 (by rw[S0];exact hi),x9 rfl]
  ·rw[z9 ha,z9 (W5 ha),Ds f hi]
 ·have h1: ∀g,(U0 g)[i]? =none:=fun g=>FU (by rw[S0];omega);rw[h1,h1];split
  ·rw[z9 (by rw[S0];omega)]
  ·rfl
theorem Hi {g:Nat→Int}(h: ∀i,i<512→f i=g i):U0 f=U0 g:=by
 have e:(List.range 512).map (fun i=>Value.int .i64 (f i))=(List.range 512).map (fun i=>Value.int .i64 (g i)):=kH (fun i hi=>by rw[h i (Gj.1 hi)]);exact congrArg List.toArray e
theorem Pn: ∀w,(zeroValue 154).run Tryz.prog w= .ok (.agg (U0 (fun _=>0))) w:=(zero_of_info (n:=512) (by kernel_rfl)).1
theorem Ui:(Tryz.prog.info? 154).map (·.size)=some 512:=by kernel_rfl
theorem zA {rest:List Oper}(hb:j4 w g 154 (U0 f))
  (h:wpList Tryz.prog ops Q rest (a.put o.dst (.agg (U0 f))) w) (Cn:o.guard=none:=by rfl) (ho:o.op= .load 154 x:=by rfl) (hx:a.eval x= .pointer (some ⟨g,0,none⟩):=by rfl):wpList Tryz.prog ops Q (o::rest) a w:=
 wpList_load_row Cn 154 x ho g hx 154 (U0 f) (0,0) _ hb Tryz.underlying154 rfl (by rw[S0];exact Ui) h
theorem Sa {rest:List Oper}{y:Operand}{f':Nat→Int}(hb:j4 w g 154 (U0 f))
  (h: ∀w',j4 w' g 154 (U0 f')→z6 [g] w w'→wpList Tryz.prog ops Q rest (a.put o.dst undef) w') (Cn:o.guard=none:=by rfl) (ho:o.op= .store 154 x y:=by rfl) (hx:a.eval x= .pointer (some ⟨g,0,none⟩):=by rfl) (hy:a.eval y= .agg (U0 f'):=by rfl):wpList Tryz.prog ops Q (o::rest) a w:=
 Am (ty:=154) (cs:=U0 f) (cs':=U0 f') (by rw[S0];exact Ui) (by rw[S0,S0]) (NQ f') hb h Cn ho hx hy
def xE (ls:List Q5)(l:List Cx)(i:Nat):Int:=Ea ls i (I4 l i) l
theorem MH {ls:List Q5}(hk:k<ls.length){na nb:Nat}(ha:ls[k].a=na)(hb:ls[k].b=nb):U0 (xE (ls.take (k+1)) l)=if ls[k].d≤I4 l na∧I4 l na≤ls[k].e∧I4 l nb=I4 l na then U0 (fun i=>if i=na then xE (ls.take k) l na+ls[k].c else xE (ls.take k) l i)else U0 (xE (ls.take k) l):=by
 split
 ·rename_i hc;refine Hi (fun i hi=> ?_);unfold xE;rw[Sk hk,ha,hb];by_cases h:i=na
  ·subst h;rw[x9 rfl,x9 ⟨rfl,hc.2.2,hc.1,hc.2.1⟩]
  ·rw[z9 h,z9 (fun e=>h (by omega)),Ub]
 ·rename_i hc;refine Hi (fun i hi=> ?_);unfold xE;rw[Sk hk,ha,hb];rw[z9,Ub];rintro⟨e1,e2,e3,e4⟩;have:i=na:=by omega
  subst this;exact hc ⟨e3,e4,e2⟩
def qw9 (w0:World)(g:Nat)(ls:List Q5)(l:List Cx)(ti:Value)(wr:World):Prop:= ∃k:Nat,k≤ls.length∧ti= .int .i64 (k:Int)∧z6 [g] w0 wr∧Hid (j4 wr g 154 (U0 (xE (ls.take k) l)))
theorem qn (VL:Value)(ls:List Q5)(l:List Cx)(go:Nat)(w:World)(hL:o5 w VL ls)(tf:j4 w go 154 (U0 (fun i=>I4 l i)))(hw: ∀x∈ls,0≤x.c∧x.c≤1073741824)(hr: ∀x∈ls,Jb x.a∧Jb x.b)(T3:ls.length≤100000):Calls Tryz.prog 91 #[VL,.pointer (some ⟨go,0,none⟩)] w fun r w'=>r= .returned (.agg (U0 (xE ls l)))∧z6 [] w w':=by
 obtain⟨A,cap,rfl⟩:=hL.form;have HL:=p7 (fun W t=>hL.q8 t);have E4:=O hw;have HR:=O hr;have hz:=Pn;have St:=O tf;have mw:=tf.lt;clear hL hw hr tf;go_enter Tryz.func91,Tryz.ntmps91;go_wp2_with fail;have Fw:z6 [] w ((w.alloc (.cells (U0 (fun _=>0)) 154)).alloc (.cells (U0 (fun _=>0)) 154)):=((z8 [] w).alloc _).alloc _;have b1:=(j4.new w 154 (U0 (fun _=>0))).alloc (.cells (U0 (fun _=>0)) 154);have b2:=j4.new (w.alloc (.cells (U0 (fun _=>0)) 154)) 154 (U0 (fun _=>0));simp only[World.size_alloc]at b2;generalize El:(w.alloc _).alloc _=w0 at b1 b2 Fw⊢;clear El;have HG:Hid (w.heap.size≤w.heap.size):=O (a9 _);have hg0: ∃g,g=w.heap.size:=⟨_,rfl⟩;obtain⟨g,hg⟩:=hg0;rw[←hg]at b1 b2 mw⊢;have bL:=O hg;have uu:=O mw;clear hg HG mw;have Ag:=O b1;have V0:=O Fw;have O5:=O b2;clear b1 b2 Fw;go_loopw [11] (fun ti wr=>qw9 w0 (g+1) ls l ti wr) (fun ti _=>ls.length - (intOf ti).toNat)
 case atStart=>exact⟨0,by omega,rfl,z8 _ _,O O5.o⟩
 case round=>
  clear O5;obtain⟨k,hk,rfl,ht,Hm⟩:=hrel;have Q8:=O (V0.o.step ht (fun m hm=> .inr (by rw[y7]at hm;have:=bL.o;omega)));have HT:=O ht;by_cases Z:k<ls.length
  ·have j1:(k:Int)< (ls.length:Int):=by omega
   have hL:=HL.o wr Q8.o;obtain⟨b,off,rfl,hb⟩:=hL.addr Z;obtain⟨ca,cb,cc,cd,ce⟩:=o5.at_ hL Z;have HX:=O (E4.o _ (k8 Z));obtain⟨Hu,DN⟩:=HR.o _ (k8 Z);unfold Jb at Hu DN;obtain⟨na,bD⟩:=K5 Hu.1;obtain⟨nb,Nb⟩:=K5 DN.1;have Q9:=O (MH (l:=l) Z bD Nb);have Xw:=O (MJ (ls:=ls.take k) (n:=(na:Int)) (c:=I4 l na) (l:=l) (fun x hx=>E4.o x (Qz hx)));have OZ:Hid ((ls.take k).length≤100000):=O (by rw[Y8];omega);have qc1:na<512:=by omega
   have qn8:nb<512:=by omega
   have bon:=(St.o.z7 Q8.o (by simp));have e1:wr.cell? ⟨go,na,none⟩=some (.int .i64 (I4 l na)):=(bon.cell na).trans (Ds _ qc1);have e2:wr.cell? ⟨go,nb,none⟩=some (.int .i64 (I4 l nb)):=(bon.cell nb).trans (Ds _ qn8);have e3:wr.cell? ⟨g+1,na,none⟩=some (.int .i64 (xE (ls.take k) l na)):=(Hm.o.cell na).trans (Ds _ qc1);have e4:=Hm.o.frozen na;have gl1:=Hm.o.lt;have gl2:=bon.lt;have HLZ:Hid (0≤xE (ls.take k) l na∧xE (ls.take k) l na≤107374182400000):=O (by have:=Xw.o;have:=OZ.o;unfold xE;omega);clear Xw OZ hL bon Hu DN ht;generalize CC:ls[k]=x at*;clear CC;obtain⟨xa,xb,xc,xd,xe⟩:=x;simp only at ca cb cc cd ce HX Q9 bD Nb;subst bD Nb;generalize xE (ls.take k) l=F at*;generalize ZY:I4 l na=z at*;generalize zc2:I4 l nb=z2 at*;have HZZ:=O ZY;clear ZY zc2;have h1:(na:Int)<512:=by omega
   have h2:(nb:Int)<512:=by omega
   clear qc1 qn8;have Ae:=O (HT.o.alloc (.cells #[.int .i64 na,.int .i64 nb,.int .i64 xc,.int .i64 xd,.int .i64 xe] 81));have aC:=O (Hm.o.alloc (.cells #[.int .i64 na,.int .i64 nb,.int .i64 xc,.int .i64 xd,.int .i64 xe] 81));have bx:=j4.new wr 81 #[.int .i64 na,.int .i64 nb,.int .i64 xc,.int .i64 xd,.int .i64 xe];have q0:(wr.alloc (.cells #[.int .i64 na,.int .i64 nb,.int .i64 xc,.int .i64 xd,.int .i64 xe] 81)).cell? ⟨wr.heap.size,0,none⟩=some (.int .i64 na):=(bx.cell 0).trans rfl;have q1:(wr.alloc (.cells #[.int .i64 na,.int .i64 nb,.int .i64 xc,.int .i64 xd,.int .i64 xe] 81)).cell? ⟨wr.heap.size,1,none⟩=some (.int .i64 nb):=(bx.cell 1).trans rfl;have q2:(wr.alloc (.cells #[.int .i64 na,.int .i64 nb,.int .i64 xc,.int .i64 xd,.int .i64 xe] 81)).cell? ⟨wr.heap.size,2,none⟩=some (.int .i64 xc):=(bx.cell 2).trans rfl;have q3:(wr.alloc (.cells #[.int .i64 na,.int .i64 nb,.int .i64 xc,.int .i64 xd,.int .i64 xe] 81)).cell? ⟨wr.heap.size,3,none⟩=some (.int .i64 xd):=(bx.cell 3).trans rfl;have q4:(wr.alloc (.cells #[.int .i64 na,.int .i64 nb,.int .i64 xc,.int .i64 xd,.int .i64 xe] 81)).cell? ⟨wr.heap.size,4,none⟩=some (.int .i64 xe):=(bx.cell 4).trans rfl;have f1:=Lib.cell?_alloc_some (.cells #[.int .i64 na,.int .i64 nb,.int .i64 xc,.int .i64 xd,.int .i64 xe] 81) e1;have f2:=Lib.cell?_alloc_some (.cells #[.int .i64 na,.int .i64 nb,.int .i64 xc,.int .i64 xd,.int .i64 xe] 81) e2;have f3:=Lib.cell?_alloc_some (.cells #[.int .i64 na,.int .i64 nb,.int .i64 xc,.int .i64 xd,.int .i64 xe] 81) e3;have f4:=aC.o.frozen na;have f5:=aC.o.lt;go_wp2_with fail;generalize gN:wr.alloc _=w1 at*;clear gN ca cb cc cd ce hb HT bx Hm e1 e2 e3 e4 gl1 gl2;have Vv:Hid (∃gx,gx=wr.heap.size):=O ⟨_,rfl⟩;obtain⟨gx,Mi⟩:=Vv.o;rw[←Mi]at q0 q1 q2 q3 q4⊢;clear Mi Vv;have HB:=O (N4 z xd xe);go_quiet (fail);go_wp2_with fail
   replace f2:(w1.drewN nq).cell? ⟨go,nb,none⟩=some (.int .i64 z2):=f2
   replace f3:(w1.drewN nq).cell? ⟨g+1,na,none⟩=some (.int .i64 (F na)):=f3
   replace q0:(w1.drewN nq).cell? ⟨gx,0,none⟩=some (.int .i64 na):=q0
   replace q1:(w1.drewN nq).cell? ⟨gx,1,none⟩=some (.int .i64 nb):=q1
   replace q2:(w1.drewN nq).cell? ⟨gx,2,none⟩=some (.int .i64 xc):=q2
   replace q3:(w1.drewN nq).cell? ⟨gx,3,none⟩=some (.int .i64 xd):=q3
   replace q4:(w1.drewN nq).cell? ⟨gx,4,none⟩=some (.int .i64 xe):=q4
   replace f4:(w1.drewN nq).frozen? ⟨g+1,na,none⟩=false:=f4
   replace f5:g+1< (w1.drewN nq).heap.size:=f5
   replace Ae:=O (Ae.o.drewN nq)
   replace aC:=O (aC.o.drewN nq)
   clear f1;generalize w1.drewN nq=w2 at*;by_cases Ad:xd≤z∧z≤xe;rotate_left
   ·have Za:decide (xd≤z∧z≤xe)=false:=v8 Ad;rw[Za]at HB;have Zz:Hid (∀W':World,W'.heap=w2.heap→W'.cell? ⟨gx,3,none⟩=some (.int .i64 xd)∧W'.cell? ⟨gx,4,none⟩=some (.int .i64 xe)):=O (fun W' e=>by refine⟨?_,?_⟩<;>(first | exact(by unfold World.cell? at q3⊢;rw[e];exact q3) | exact(by unfold World.cell? at q4⊢;rw[e];exact q4)));go_quiet ((first | (go_at_call 89;exact x8 (HB.o _))));go_wp2_with fail;exact⟨⟨k+1,by omega,by go_num,Ae.o.drewN _,O (by rw[Q9.o,z9 (fun h=>Ad ⟨h.1,h.2.1⟩)];exact aC.o.drewN _)⟩,by simp[intOf];omega⟩
   have Za:decide (xd≤z∧z≤xe)=true:=b_ Ad;rw[Za]at HB;have Zz:Hid (∀W':World,W'.heap=w2.heap→W'.cell? ⟨go,nb,none⟩=some (.int .i64 z2)∧W'.cell? ⟨gx,1,none⟩=some (.int .i64 nb)∧W'.cell? ⟨gx,3,none⟩=some (.int .i64 xd)∧W'.cell? ⟨gx,4,none⟩=some (.int .i64 xe)):=O (fun W' e=>by refine⟨?_,?_,?_,?_⟩<;>(first | exact(by unfold World.cell? at f2⊢;rw[e];exact f2) | exact(by unfold World.cell? at q1⊢;rw[e];exact q1) | exact(by unfold World.cell? at q3⊢;rw[e];exact q3) | exact(by unfold World.cell? at q4⊢;rw[e];exact q4)));by_cases Cs:z2=z
   ·have qZ:(z2==z)=true:=by simpa using Cs
    go_region_held3 (fun W'=>W'.cell? ⟨go,nb,none⟩=some (.int .i64 z2)∧W'.cell? ⟨gx,1,none⟩=some (.int .i64 nb)∧W'.cell? ⟨gx,3,none⟩=some (.int .i64 xd)∧W'.cell? ⟨gx,4,none⟩=some (.int .i64 xe)) (exact Zz.o _ rfl) (first
     | (go_at_call 89;with_reducible refine(HB.o _).mono ?_;rintro r w2 ⟨rfl,rfl⟩;(try dsimp only)))
    clear Zz f2 q1 q3 q4;have hwr:IntKind.i64.wrap (F na+xc)=F na+xc:=IntWalk.i64_in _ (by have:=HLZ.o;have:=HX.o;omega);go_wp2_with fail;go_region_with (fail)
    all_goals
     have HE:Hid (z6 [g+1] w0 ((w2.setCell ⟨g+1,na,none⟩ (.int .i64 (F na+xc))).drew.drew)∧j4 ((w2.setCell ⟨g+1,na,none⟩ (.int .i64 (F na+xc))).drew.drew) (g+1) 154 (U0 (xE (ls.take (k+1)) l))):=O ⟨((Ae.o.setCell (.inl (by simp)) _).drewN 1).drewN 1,by rw[Q9.o,x9 ⟨Ad.1,Ad.2,Cs⟩,←eU];exact((aC.o.V8 na _).drew).drew⟩;go_wp2_with fail;exact⟨⟨k+1,by omega,by go_num,HE.o.1,O HE.o.2⟩,by simp[intOf];omega⟩
   ·have qZ:(z2==z)=false:=by simpa using Cs
    go_region_held3 (fun W'=>W'.cell? ⟨go,nb,none⟩=some (.int .i64 z2)∧W'.cell? ⟨gx,1,none⟩=some (.int .i64 nb)∧W'.cell? ⟨gx,3,none⟩=some (.int .i64 xd)∧W'.cell? ⟨gx,4,none⟩=some (.int .i64 xe)) (exact Zz.o _ rfl) (first
     | (go_at_call 89;with_reducible refine(HB.o _).mono ?_;rintro r w2 ⟨rfl,rfl⟩;(try dsimp only)))
    go_wp2_with fail;exact⟨⟨k+1,by omega,by go_num,Ae.o.drewN _,O (by rw[Q9.o,z9 (fun h=>Cs h.2.2)];exact aC.o.drewN _)⟩,by simp[intOf];omega⟩
  ·have j1: ¬(k:Int)< (ls.length:Int):=by omega
   have gX:=Hm.o;have Qj:=Ag.o.z7 ht (by simp);rw[N2 (by omega)]at gX;clear hz;have gX:=O gX;have Qj:=O Qj;go_wp2_with (first | (refine zA gX.o ?_) | (refine Sa Qj.o ?_;intro w7 b7 t7));refine bodyPost_ret (results_cell_row rfl _ w7 g 154 (U0 (xE ls l)) (0,0) _ rfl b7 Tryz.underlying154 rfl (by rw[S0];exact Ui)) rfl ⟨rfl,?_⟩;exact Q8.o.step t7 (fun m hm=> .inr (by rw[y7]at hm;have:=bL.o;omega))
theorem sa (h:J5 p=true): ∀x∈p.R.L,Jb x.a∧Jb x.b:=fun x hx=>by
 unfold J5 V1 at h;simp only[p9]at h;have h1:=(Z6.1 h.2.1.2.2.2.2.1) x hx;unfold W9 K2 at h1;simp only[p9,E0]at h1;unfold Jb;omega
theorem sn (h:J5 p=true): ∀x∈p.R.P,Jb x.a∧Jb x.b∧2≤x.d∧x.e≤51:=fun x hx=>by
 unfold J5 V1 at h;simp only[p9]at h;have h1:=(Z6.1 h.2.1.2.1) x hx;unfold W8 K2 Da at h1;simp only[p9,E0]at h1;unfold Jb;omega
theorem LQ (h:J5 p=true): ∀x∈p.R.C,Jb x.a∧2≤x.c:=fun x hx=>by
 unfold J5 V1 at h;simp only[p9]at h;have h1:=(Z6.1 h.2.1.2.2.2.2.2.2.2.1) x hx;unfold C5 K2 Da at h1;simp only[p9,E0]at h1;unfold Jb;omega
theorem gz: ∀(t:List Cx) (x:Cx) (n:Int),(∀y∈t,y.a≠x.a)→I4 (t++ [x]) n=if n=x.a then x.b else I4 t n
 | [],x,n,_=>by
  show(if x.a=n then x.b else 0)=if n=x.a then x.b else 0
  by_cases e:x.a=n
  ·rw[x9 e,x9 e.symm]
  ·rw[z9 e,z9 (W5 e)]
 | y::t,x,n,h=>by
  have ih:=gz t x n (fun z hz=>h z (by simp[hz]));have hy:=h y (by simp);show(if y.a=n then y.b else I4 (t++ [x]) n)=if n=x.a then x.b else if y.a=n then y.b else I4 t n
  by_cases e:y.a=n
  ·rw[x9 e,x9 e,z9 (by omega)]
  ·rw[z9 e,z9 e,ih]
theorem oL (h: ∀(j:Nat) x y,l[j]? =some x→l[j+1]? =some y→x.a<y.a): ∀(d j:Nat) x y,l[j]? =some x→l[j+1+d]? =some y→x.a<y.a
 | 0,j,x,y,hx,hy=>h j x y hx hy
 | d+1,j,x,y,hx,hy=>by
  have hlen:=(U4.1 hy).1;have hz:l[j+1+d]? =some l[j+1+d]:=j6 (by omega);have h1:=oL h d j x _ hx hz;have h2:=h (j+1+d) _ y hz hy;omega
theorem SQ (h:Iw l=true)(hk:k<l.length)(n:Int):I4 (l.take (k+1)) n=if n=l[k].a then l[k].b else I4 (l.take k) n:=by
 rw[Cw hk];refine gz _ _ _ (fun y hy=> ?_);obtain⟨j,hj⟩:=Gk hy;rw[Tw]at hj;split at hj
 ·rename_i WM;have:=oL (Fs.1 h).2 (k - j - 1) j y l[k] hj (by rw[show j+1+(k - j - 1)=k by omega];exact j6 hk);omega
 ·cases hj
theorem UN (h:Iw l=true): ∀y∈l,Jb y.a:=fun y hy=>by
 obtain⟨j,hj⟩:=Gk hy;have:=(Fs.1 h).1 j y hj;unfold Vz K2 at this;simp only[p9,E0]at this;unfold Jb;omega
theorem JK: ∀ {l:List Cx},(∀y∈l,2≤y.b∧y.b≤51)→ ∀n,0≤I4 l n∧I4 l n≤51
 | [],_,n=>by simp[I4]
 | y::t,h,n=>by
  have h1:=h y (by simp);have h2:=JK (l:=t) (fun z hz=>h z (by simp[hz])) n;show 0≤(if y.a=n then y.b else I4 t n)∧(if y.a=n then y.b else I4 t n)≤51;split<;>omega
def qw4 (w0:World)(g:Nat)(l:List Cx)(ti:Value)(wr:World):Prop:= ∃k:Nat,k≤l.length∧ti= .int .i64 (k:Int)∧z6 [g] w0 wr∧Hid (j4 wr g 154 (U0 (fun i=>I4 (l.take k) i)))
theorem iO (p:Px)(VD VP VL VC v:Value)(l:List Cx)(w:World)(h:K3 w VD VP VL VC p)(hv:Q0 w v l)(V5:P0 p)(T3:l.length≤100000)(J3:J5 p=true)(hl:Iw l=true):Calls Tryz.prog 47 #[.agg #[VD,VP,VL,VC],v,.bool true] w (aU (B5 p l) w):=by
  have WJ:=On J3;have WG:=dV J3;have hLR:=sa J3;have hPR:=sn J3;have hCR:=LQ J3;have hDR:=Lj J3;have PS:=JT hl;have WT:=JK PS;have hbw:=O (N4);have HLO:=O (fun(W:World) (t:z6 [] w W) (go:Nat) (hb:j4 W go 154 (U0 (fun i=>I4 l i)))=>qn VL p.R.L l go W (h.ld.q8 t) hb WJ hLR V5.ld);have U_:=p7 (fun W t=>Ih VD VP VL VC p.D W (h.d.q8 t) hDR V5.d);have CF:Wf (D9 (l5 p.D)):=Ca (fun x hx=>by obtain⟨d,hd,rfl⟩:=F4.1 hx;exact hDR d hd);have HHS:=O (fun(W:World) (n:Int)=>Ee (D9 (l5 p.D)) CF n W);have OY:Hid (∀n,Z1 (D9 (l5 p.D)) n=y8 p n):=O (fun n=>Y4 (fun x hx=>by obtain⟨d,hd,rfl⟩:=F4.1 hx;exact hDR d hd) n);have Cr:=m8 CF;have I6:=V7 (D9 (l5 p.D));unfold T5 at U_ HHS;have qe3:=p7 (fun W t=>h.q8 t);have qO:=p7 (fun W t=>hv.q8 t);have HBd:Hid (p.D.all (Gh l)=false→B5 p l=false):=O (fun e=>by unfold B5;simp[e]);have HBf:Hid (l.all (fun c=>y8 p c.a)=false→B5 p l=false):=O (fun e=>by unfold B5;simp[e]);have HBp:Hid (p.R.P.all (fun r=> !A9 l r)=false→B5 p l=false):=O (fun e=>by unfold B5;simp[e]);have HBc:Hid (p.R.C.all (fun r=> !Eb p.R.L l r)=false→B5 p l=false):=O (fun e=>by unfold B5;simp[e]);have qP:Hid (p.D.all (Gh l)=true→l.all (fun c=>y8 p c.a)=true→p.R.P.all (fun r=> !A9 l r)=true→p.R.C.all (fun r=> !Eb p.R.L l r)=true→B5 p l=true):=O (fun e1 e2 e3 e4=>by unfold B5;rw[e1,e2,e3,e4];rfl);have E4:=O WT;have CZ:=O WG;have Bb:=O hPR;have HCR:=O hCR;have HDR:=O hDR;have HLR:=O (UN hl);have Q9:=O (fun(k:Nat) (hk:k<l.length) (n:Int)=>SQ hl hk n);obtain⟨AD,cD,rfl,-,-⟩:=h.d.form;obtain⟨AP,cP,rfl⟩:=h.pr.form;obtain⟨AL,cL,rfl⟩:=h.ld.form;obtain⟨AC,cC,rfl⟩:=h.cp.form;obtain⟨A,cap,rfl⟩:=hv.form;clear h hv PS J3 WJ WG hLR hPR hCR hDR WT hl;generalize B5 p l=n9 at*;generalize ((D9 (l5 p.D)).map y6).toArray=cs at*;have hz:=Pn;have hlD:=V5.d;have hlP:=V5.pr;have hlC:=V5.cp;go_enter Tryz.func47,Tryz.ntmps47;go_wp2_with fail;have b0:=((j4.new w 29 #[.slice AD p.D.length cD,.slice AP p.R.P.length cP,.slice AL p.R.L.length cL,.slice AC p.R.C.length cC]).alloc (.cells #[.int .i64 0,.int .i64 0] 62)).alloc (.cells (U0 (fun _=>0)) 154);have b1:=(j4.new (w.alloc (.cells #[.slice AD p.D.length cD,.slice AP p.R.P.length cP,.slice AL p.R.L.length cL,.slice AC p.R.C.length cC] 29)) 62 #[.int .i64 0,.int .i64 0]).alloc (.cells (U0 (fun _=>0)) 154);have b2:=j4.new ((w.alloc (.cells #[.slice AD p.D.length cD,.slice AP p.R.P.length cP,.slice AL p.R.L.length cL,.slice AC p.R.C.length cC] 29)).alloc (.cells #[.int .i64 0,.int .i64 0] 62)) 154 (U0 (fun _=>0));simp only[World.size_alloc]at b1 b2;have o6:z6 [] w (((w.alloc (.cells #[.slice AD p.D.length cD,.slice AP p.R.P.length cP,.slice AL p.R.L.length cL,.slice AC p.R.C.length cC] 29)).alloc (.cells #[.int .i64 0,.int .i64 0] 62)).alloc (.cells (U0 (fun _=>0)) 154)):=(((z8 [] w).alloc _).alloc _).alloc _;generalize El:((w.alloc _).alloc _).alloc _=w0 at*;clear El;obtain⟨g,hg⟩: ∃g,g=w.heap.size:=⟨_,rfl⟩;rw[←hg]at b0 b1 b2⊢;have HG:=O hg;have HK0:Hid (∀W',z6 [g+1+1] w0 W'→W'.cell? ⟨g,0,none⟩=some (.slice AD p.D.length cD)∧W'.cell? ⟨g,1,none⟩=some (.slice AP p.R.P.length cP)∧W'.cell? ⟨g,2,none⟩=some (.slice AL p.R.L.length cL)∧W'.cell? ⟨g,3,none⟩=some (.slice AC p.R.C.length cC)):=O (fun W' t=>(b0.z7 t (by simp only[y7];omega)).F2);have qr4:=O b1;have O5:=O b2;have HTI:=O o6;clear hg b0 b1 b2 o6;go_loopw [23] (fun ti wr=>qw4 w0 (g+1+1) l ti wr) (fun ti _=>l.length - (intOf ti).toNat)
  case atStart=>exact⟨0,by omega,rfl,z8 _ _,O O5.o⟩
  case round=>
    clear O5;obtain⟨k,hk,rfl,ht,Hm⟩:=hrel;have m9:=O (HTI.o.step ht (fun m hm=> .inr (by rw[y7]at hm;have:=HG.o;omega)));by_cases Z:k<l.length
    · have j1:(k:Int)< (l.length:Int):=by omega
      have qJ:=qO.o wr m9.o;obtain⟨b,off,rfl,hb⟩:=qJ.addr Z;obtain⟨ca,cb⟩:=Q0.at_ qJ Z;have Hu:=HLR.o _ (k8 Z);unfold Jb at Hu;obtain⟨na,bD⟩:=K5 Hu.1;have hS:=Q9.o k Z;rw[bD]at Hu hS ca;have h1:(na:Int)<512:=Hu.2;have e4:=Hm.o.frozen na;have gl1:=Hm.o.lt;have e3:wr.cell? ⟨g+1+1,na,none⟩=some (.int .i64 (I4 (l.take k) na)):=(Hm.o.cell na).trans (Ds _ (by omega))
      have HS:Hid (U0 (fun i=>I4 (l.take (k+1)) i)=U0 (fun i=>if i=na then l[k].b else I4 (l.take k) i)):=O (Hi (fun i hi=>by
        show I4 (l.take (k+1)) i=if i=na then l[k].b else I4 (l.take k) i
        rw[hS];by_cases e:i=na
        · rw[x9 e,x9 (by omega)]
        · rw[z9 e,z9 (by omega)]))
      have HT:=O ht;clear qJ hS Hu ht bD;generalize l[k].b=xb at*;generalize I4 (l.take k) na=Fb at*;go_wp2_with fail;have HE:Hid (z6 [g+1+1] w0 ((wr.setCell ⟨g+1+1,na,none⟩ (.int .i64 xb)).alloc (.cells #[.int .i64 na,.int .i64 xb] 53))∧j4 ((wr.setCell ⟨g+1+1,na,none⟩ (.int .i64 xb)).alloc (.cells #[.int .i64 na,.int .i64 xb] 53)) (g+1+1) 154 (U0 (fun i=>I4 (l.take (k+1)) i))):=O ⟨(HT.o.setCell (.inl (by simp)) _).alloc _,by rw[HS.o,←eU (fun i=>I4 (l.take k) i)];exact(Hm.o.V8 na _).alloc _⟩
      first
        | exact⟨⟨k+1,by omega,by go_num,HE.o.1,O HE.o.2⟩,by simp[intOf];omega⟩
        | (go_roundw
           case rel=>exact⟨k+1,by omega,by go_num,HE.o.1,O HE.o.2⟩
           case measure=>simp[intOf];omega)
    · have j1: ¬(k:Int)< (l.length:Int):=by omega
      have gX:=Hm.o;rw[N2 (by omega)]at gX;have HK:Hid (∀W',z6 [] wr W'→W'.cell? ⟨g,0,none⟩=some (.slice AD p.D.length cD)∧W'.cell? ⟨g,1,none⟩=some (.slice AP p.R.P.length cP)∧W'.cell? ⟨g,2,none⟩=some (.slice AL p.R.L.length cL)∧W'.cell? ⟨g,3,none⟩=some (.slice AC p.R.C.length cC)):=O (fun W' t=>HK0.o W' (ht.Y t));have Ag:=O (qr4.o.z7 ht (by simp only[y7];omega));have St:=O gX;have HOC:Hid (∀W',z6 [] wr W'→ ∀m:Nat,m<512→W'.cell? ⟨g+1+1,m,none⟩=some (.int .i64 (I4 l m))):=O (fun W' t m hm=>((gX.z7 t (by simp)).cell m).trans (Ds _ hm));obtain⟨r0,r1,r2,r3⟩:=HK.o wr (z8 _ _);clear ht Hm gX qr4 HK0 HTI Q9;have D6:=O (z8 [] wr);go_wp2_with fail;clear r0 r1 r2 r3 Z j1 hk;generalize wr=wA at*;go_loopw [36] (fun ti wr=>C9 (Gh l) wA p.D ti wr) (fun ti _=>p.D.length - (intOf ti).toNat)
      case atStart=>exact⟨0,by omega,rfl,D6.o,O (fun j x h=>by omega)⟩
      case round=>
        clear D6;obtain⟨k,hk,rfl,ht,HX⟩:=hrel;by_cases Z:k<p.D.length
        · have j1:(k:Int)< (p.D.length:Int):=by omega
          have T2:=qe3.o wr (m9.o.Y ht);obtain⟨b,off,c,rfl,hb,-,N0⟩:=T2.d.at_ Z;obtain⟨ca,cb,B8⟩:=N0 wr (z8 _ _);obtain⟨A2,X2,rfl⟩:=B8.form;have Hu:=HDR.o _ (k8 Z);unfold Jb at Hu;obtain⟨na,bD⟩:=K5 Hu.1;have HRH:=O (fun(W:World) (t:z6 [] wr W) (n:Int)=>jC _ _ n W (B8.q8 t));have D7:Hid (Gh l p.D[k]=false→n9=false):=O (fun e=>HBd.o (B7 Z e));have I5:Hid (Gh l p.D[k]=true→ ∀(j:Nat) x,j<k+1→p.D[j]? =some x→Gh l x=true):=O (fun e=>X7 HX.o Z e);have h1:(na:Int)<512:=by omega
          have e1:=HOC.o wr ht na (by omega);have gl1:=(St.o.z7 ht (by simp)).lt;clear T2 HX N0 B8 Hu;unfold Gh at D7 I5;rw[bD]at D7 I5 ca;generalize p.D[k].ch=ch at*;generalize I4 l na=z at*;have HT:=O ht;clear ht bD;have V0:=O (HT.o.alloc (.cells #[.int .i64 na,.slice A2 ch.length X2] 75));have bx:=j4.new wr 75 #[.int .i64 na,.slice A2 ch.length X2];have qq8:=O (HRH.o _ ((z8 [] wr).alloc (.cells #[.int .i64 na,.slice A2 ch.length X2] 75)));clear HRH;by_cases mJ:z=0
          · have y5:=O (D7.o (by simp[mJ]))
            subst mJ;have b9:=Ag.o.z7 (HT.o) (by simp);have wo:_=some _:=(b9.cell 0).trans rfl;have wi:_=some _:=(b9.cell 1).trans rfl;have f90:=b9.frozen 0;have f91:=b9.frozen 1;have l9:=b9.lt;have Kw:=O b9;have Bq:=O (HT.o);clear b9;go_wp2_with fail;have Ss:=((Kw.o.V8 0 (.int .i64 1)).V8 1 (.int .i64 (k:Int))).alloc (.cells #[.int .i64 na,.slice A2 ch.length X2] 75);refine bodyPost_ret (results_cell_row rfl _ _ (g+1) 62 #[.int .i64 1,.int .i64 (k:Int)] (0,0) _ rfl Ss Tryz.underlying62 rfl (by kernel_rfl)) rfl ⟨1,k,rfl,fun e=>(by rw[y5.o]at e;cases e),fun _=>(by decide),(((m9.o.Y Bq.o).setCell (p:=⟨g+1,0,none⟩) (.inr (by have:=HG.o;show w.heap.size≤g+1;omega)) _).setCell (p:=⟨g+1,1,none⟩) (.inr (by have:=HG.o;show w.heap.size≤g+1;omega)) _).alloc _⟩
          · have aX:(z==0)=false:=by simpa using mJ
            have Vp:(z !=0)=true:=by simpa using mJ
            have HRQ:=O (qq8.o z);clear qq8;generalize OI:ch.contains z=q at*
            cases q with
            | false=>
              have y5:=O (D7.o (by simp));go_wp2_with fail;refine HRQ.o.mono ?_;rintro r w3 ⟨rfl,t3⟩;have b9:=Ag.o.z7 (V0.o.Y t3) (by simp);have wo:_=some _:=(b9.cell 0).trans rfl;have wi:_=some _:=(b9.cell 1).trans rfl;have f90:=b9.frozen 0;have f91:=b9.frozen 1;have Kw:=O b9;have Bq:=O (V0.o.Y t3);clear b9;go_wp2_with fail;have Ss:=((Kw.o.V8 0 (.int .i64 1)).V8 1 (.int .i64 (k:Int)));refine bodyPost_ret (results_cell_row rfl _ _ (g+1) 62 #[.int .i64 1,.int .i64 (k:Int)] (0,0) _ rfl Ss Tryz.underlying62 rfl (by kernel_rfl)) rfl ⟨1,k,rfl,fun e=>(by rw[y5.o]at e;cases e),fun _=>(by decide),((m9.o.Y Bq.o).setCell (p:=⟨g+1,0,none⟩) (.inr (by have:=HG.o;show w.heap.size≤g+1;omega)) _).setCell (p:=⟨g+1,1,none⟩) (.inr (by have:=HG.o;show w.heap.size≤g+1;omega)) _⟩
            | true=>
              have W7:=O (I5.o (by simp[mJ]));go_wp2_with fail;refine HRQ.o.mono ?_;rintro r w3 ⟨rfl,t3⟩;have Q8:=O (V0.o.Y t3);clear t3;go_wp2_with fail;go_roundw
              case rel=>exact⟨k+1,by omega,by go_num,Q8.o,W7⟩
              case measure=>simp[intOf];omega
        · have j1: ¬(k:Int)< (p.D.length:Int):=by omega
          have HDd:=O (U8 HX.o (by omega));have D6:=O ht;obtain⟨r0,r1,r2,r3⟩:=HK.o wr ht;clear HX ht;go_wp2_with fail;refine(U_.o _ (m9.o.Y D6.o)).mono ?_;rintro r w3 ⟨rfl,t3⟩;have rF:=O ((D6.o.Y t3).alloc (.cells ((l8.map y6).toArray) 69));have QK:=O ((D6.o.Y t3).size);clear t3 r0 r1 r2 r3;go_wp2_with (first | (refine D0 (j4.new _ _ _) rfl Cr I6 ?_;intro w6 b6 vq));have b6c:=b6;have HA6:=O (rF.o.step vq (fun m hm=> .inr (by rw[y7]at hm;have:=QK.o;omega)));obtain⟨gs,gQ⟩: ∃gs,gs=w3.heap.size:=⟨_,rfl⟩;rw[←gQ]at b6⊢;have Vo:=O b6;clear gQ b6 b6c vq rF QK D6 Z j1 hk;go_loopw [68] (fun ti wr=>C9 (fun c:Cx=>y8 p c.a) w6 l ti wr) (fun ti _=>l.length - (intOf ti).toNat)
          case atStart=>exact⟨0,by omega,rfl,z8 _ _,O (fun j x h=>by omega)⟩
          case round=>
            obtain⟨k,hk,rfl,ht,HX⟩:=hrel;have aD:=O (HA6.o.Y ht);by_cases Z:k<l.length
            · have j1:(k:Int)< (l.length:Int):=by omega
              have qJ:=qO.o wr (m9.o.Y aD.o);obtain⟨b,off,rfl,hb⟩:=qJ.addr Z;obtain⟨ca,cb⟩:=Q0.at_ qJ Z;have HHF:=O (fun(W:World)=>HHS.o W l[k].a);have hq:=OY.o l[k].a;have D7:Hid (y8 p l[k].a=false→n9=false):=O (fun e=>HBf.o (B7 (good:=fun c:Cx=>y8 p c.a) Z e));have I5:Hid (y8 p l[k].a=true→ ∀(j:Nat) (x:Cx),j<k+1→l[j]? =some x→y8 p x.a=true):=O (fun e=>X7 (good:=fun c:Cx=>y8 p c.a) HX.o Z e);rw[hq]at HHF;clear qJ HX hq;generalize y8 p l[k].a=q at*;generalize l[k].a=xa at*;generalize l[k].b=xb at*;have HBW:=O (Vo.o.z7 ht (by simp));have HT:=O ht;clear ht;go_wp2_with (first | (refine U5 (HBW.o.alloc _) Cr ?_));refine(HHF.o _).mono ?_;rintro r w4 ⟨rfl,t4⟩;have Q8:=O ((HT.o.alloc _).Y t4);have L_:=O ((aD.o.alloc _).Y t4);clear t4
              cases q with
              | false=>
                have y5:=O (D7.o rfl);have b9:=Ag.o.z7 (L_.o) (by simp);have wo:_=some _:=(b9.cell 0).trans rfl;have wi:_=some _:=(b9.cell 1).trans rfl;have f90:=b9.frozen 0;have f91:=b9.frozen 1;have Kw:=O b9;have Bq:=O (L_.o);clear b9;go_wp2_with fail;have Ss:=((Kw.o.V8 0 (.int .i64 2)).V8 1 (.int .i64 (k:Int)));refine bodyPost_ret (results_cell_row rfl _ _ (g+1) 62 #[.int .i64 2,.int .i64 (k:Int)] (0,0) _ rfl Ss Tryz.underlying62 rfl (by kernel_rfl)) rfl ⟨2,k,rfl,fun e=>(by rw[y5.o]at e;cases e),fun _=>(by decide),((m9.o.Y Bq.o).setCell (p:=⟨g+1,0,none⟩) (.inr (by have:=HG.o;show w.heap.size≤g+1;omega)) _).setCell (p:=⟨g+1,1,none⟩) (.inr (by have:=HG.o;show w.heap.size≤g+1;omega)) _⟩
              | true=>
                have W7:=O (I5.o rfl);go_wp2_with fail;go_roundw
                case rel=>exact⟨k+1,by omega,by go_num,Q8.o,W7⟩
                case measure=>simp[intOf];omega
            · have j1: ¬(k:Int)< (l.length:Int):=by omega
              have HDf:=O (U8 HX.o (by omega));have D6:=O ht;obtain⟨r0,r1,r2,r3⟩:=HK.o wr aD.o;clear HX ht;go_wp2_with fail;clear r0 r1 r2 r3 Z j1 hk aD;go_loopw [85] (fun ti wr=>C9 (fun r:Q5=> !A9 l r) w6 p.R.P ti wr) (fun ti _=>p.R.P.length - (intOf ti).toNat)
              case atStart=>exact⟨0,by omega,rfl,D6.o,O (fun j x h=>by omega)⟩
              case round=>
                clear D6;obtain⟨k,hk,rfl,ht,HX⟩:=hrel;have aD:=O (HA6.o.Y ht);have HT:=O ht;clear ht;by_cases Z:k<p.R.P.length
                · have j1:(k:Int)< (p.R.P.length:Int):=by omega
                  have T2:=qe3.o wr (m9.o.Y aD.o);obtain⟨b,off,rfl,hb⟩:=T2.pr.addr Z;obtain⟨ca,cb,cc,cd,ce⟩:=o5.at_ T2.pr Z;obtain⟨Hu,DN,hrd,hre⟩:=Bb.o _ (k8 Z);obtain⟨Ad,Cs⟩:=CZ.o _ (k8 Z);have D7:Hid (A9 l p.R.P[k]=true→n9=false):=O (fun e=>HBp.o (B7 Z (by simp[e])));have I5:Hid (A9 l p.R.P[k]=false→ ∀(j:Nat) x,j<k+1→p.R.P[j]? =some x→(!A9 l x)=true):=O (fun e=>X7 HX.o Z (by simp[e]));clear T2 HX;generalize p.R.P[k]=x at*;obtain⟨xa,xb,xc,xd,xe⟩:=x;simp only at ca cb cc cd ce Hu DN hrd hre Ad Cs;unfold Jb at Hu DN;obtain⟨na,bD⟩:=K5 Hu.1;obtain⟨nb,Nb⟩:=K5 DN.1;subst bD Nb;have h1:(na:Int)<512:=Hu.2;have h2:(nb:Int)<512:=DN.2;have hza:=E4.o na;have hzb:=E4.o nb;unfold A9 at D7 I5;simp only at D7 I5;have HOA:=O (fun W' (t:z6 [] wA W')=>HOC.o W' t na (by omega));have HOB:=O (fun W' (t:z6 [] wA W')=>HOC.o W' t nb (by omega));generalize I4 l na=z at*;generalize I4 l nb=z2 at*;have yN:Hid (xd≤z∧z≤xe→z2=z+xc→n9=false):=O (fun c1 c2=>D7.o (b_ ⟨by omega,by omega,c1.1,c1.2,c2⟩));have GG:=O (fun(c: ¬((xd≤z∧z≤xe)∧z2=z+xc))=>I5.o (v8 (fun e=>c ⟨⟨e.2.2.1,e.2.2.2.1⟩,e.2.2.2.2⟩)));have hwr:IntKind.i64.wrap (z+xc)=z+xc:=IntWalk.i64_in _ (by omega);have Ae:=O (HT.o.alloc (.cells #[.int .i64 na,.int .i64 nb,.int .i64 xc,.int .i64 xd,.int .i64 xe] 79));have cj:=O (aD.o.alloc (.cells #[.int .i64 na,.int .i64 nb,.int .i64 xc,.int .i64 xd,.int .i64 xe] 79));have bx:=j4.new wr 79 #[.int .i64 na,.int .i64 nb,.int .i64 xc,.int .i64 xd,.int .i64 xe];have q0:_=some _:=(bx.cell 0).trans rfl;have q1:_=some _:=(bx.cell 1).trans rfl;have q2:_=some _:=(bx.cell 2).trans rfl;have q3:_=some _:=(bx.cell 3).trans rfl;have q4:_=some _:=(bx.cell 4).trans rfl;have f1:=HOA.o _ cj.o;have f2:=HOB.o _ cj.o;clear D7 I5 Hu DN HOA HOB;go_wp2_with fail;generalize gN:wr.alloc _=w1 at*;clear gN ca cb cc cd ce hb bx aD HT;have Vv:Hid (∃gx,gx=wr.heap.size):=O ⟨_,rfl⟩;obtain⟨gx,Mi⟩:=Vv.o;rw[←Mi]at q0 q1 q2 q3 q4⊢;clear Mi Vv;have HB:=O (hbw.o z xd xe);by_cases Ad:xd≤z∧z≤xe;rotate_left
                  · have Za:decide (xd≤z∧z≤xe)=false:=v8 Ad
                    have W7:=O (GG.out (fun e=>Ad e.1));rw[Za]at HB;go_quiet ((first | (go_at_call 89;exact x8 (HB.o _))));go_wp2_with fail;exact⟨⟨k+1,by omega,by go_num,Ae.o.drewN _,W7⟩,by simp[intOf];omega⟩
                  have Za:decide (xd≤z∧z≤xe)=true:=b_ Ad;rw[Za]at HB;by_cases Cs:z2=z+xc
                  · have qZ:(z2==z+xc)=true:=by simpa using Cs
                    have y5:=O (yN.out Ad Cs);go_quiet ((first | (go_at_call 89;exact x8 (HB.o _))));have b9:=Ag.o.z7 (cj.o.drewN nq) (by simp);have wo:_=some _:=(b9.cell 0).trans rfl;have wi:_=some _:=(b9.cell 1).trans rfl;have f90:=b9.frozen 0;have f91:=b9.frozen 1;have Kw:=O b9;have Bq:=O (cj.o.drewN nq);clear b9;go_wp2_with fail;have Ss:=((Kw.o.V8 0 (.int .i64 3)).V8 1 (.int .i64 (k:Int)));refine bodyPost_ret (results_cell_row rfl _ _ (g+1) 62 #[.int .i64 3,.int .i64 (k:Int)] (0,0) _ rfl Ss Tryz.underlying62 rfl (by kernel_rfl)) rfl ⟨3,k,rfl,fun e=>(by rw[y5.o]at e;cases e),fun _=>(by decide),((m9.o.Y Bq.o).setCell (p:=⟨g+1,0,none⟩) (.inr (by have:=HG.o;show w.heap.size≤g+1;omega)) _).setCell (p:=⟨g+1,1,none⟩) (.inr (by have:=HG.o;show w.heap.size≤g+1;omega)) _⟩
                  · have qZ:(z2==z+xc)=false:=by simpa using Cs
                    have W7:=O (GG.out (fun e=>Cs e.2));go_quiet ((first | (go_at_call 89;exact x8 (HB.o _))));go_wp2_with fail;exact⟨⟨k+1,by omega,by go_num,Ae.o.drewN _,W7⟩,by simp[intOf];omega⟩
                · have j1: ¬(k:Int)< (p.R.P.length:Int):=by omega
                  have HDp:=O (U8 HX.o (by omega));obtain⟨r0,r1,r2,r3⟩:=HK.o wr aD.o;have DC:=O (HLO.o wr (m9.o.Y aD.o) _ (St.o.z7 aD.o (by simp)));clear HX HT HHS U_;go_wp2_with fail;refine DC.o.mono ?_;rintro r w3 ⟨rfl,t3⟩;have rF:=O ((aD.o.Y t3).alloc (.cells (U0 (fun _=>0)) 154));have QK:=O ((aD.o.Y t3).size);clear t3 r0 r1 r2 r3 DC aD;go_wp2_with (first | (refine Sa (j4.new _ _ _) ?_;intro w8 b8 t8;obtain⟨r0,r1,r2,r3⟩:=HK.o w8 (rF.o.step t8 (fun m hm=> .inr (by rw[y7]at hm;have:=QK.o;omega)))));have HA8:=O (rF.o.step t8 (fun m hm=> .inr (by rw[y7]at hm;have:=QK.o;omega)));obtain⟨gl,Bo⟩: ∃gl,gl=w3.heap.size:=⟨_,rfl⟩;rw[←Bo]at b8⊢;have PD:=O b8;clear Bo b8 t8 rF QK Z j1 hk r0 r1 r2 r3;go_loopw [124] (fun ti wr=>C9 (fun r:Q4=> !Eb p.R.L l r) w8 p.R.C ti wr) (fun ti _=>p.R.C.length - (intOf ti).toNat)
                  case atStart=>exact⟨0,by omega,rfl,z8 _ _,O (fun j x h=>by omega)⟩
                  case round=>
                    obtain⟨k,hk,rfl,ht,HX⟩:=hrel;have aD:=O (HA8.o.Y ht);by_cases Z:k<p.R.C.length
                    · have j1:(k:Int)< (p.R.C.length:Int):=by omega
                      have T2:=qe3.o wr (m9.o.Y aD.o);obtain⟨b,off,rfl,hb⟩:=T2.cp.addr Z;obtain⟨ca,cb,cc,cd⟩:=T9.at_ T2.cp Z;obtain⟨Hu,h_⟩:=HCR.o _ (k8 Z);have D7:Hid (Eb p.R.L l p.R.C[k]=true→n9=false):=O (fun e=>HBc.o (B7 Z (by simp[e])));have I5:Hid (Eb p.R.L l p.R.C[k]=false→ ∀(j:Nat) x,j<k+1→p.R.C[j]? =some x→(!Eb p.R.L l x)=true):=O (fun e=>X7 HX.o Z (by simp[e]));clear T2 HX;generalize p.R.C[k]=x at*;obtain⟨xa,xb,xc,xd⟩:=x;simp only at ca cb cc cd Hu h_;unfold Jb at Hu;obtain⟨na,bD⟩:=K5 Hu.1;subst bD;have h1:(na:Int)<512:=Hu.2;have tf:=HOC.o wr aD.o na (by omega);have m_:wr.cell? ⟨gl,na,none⟩=some (.int .i64 (Ea p.R.L na (I4 l na) l)):=((PD.o.z7 ht (by simp)).cell na).trans (Ds (xE p.R.L l) (by omega));unfold Eb at D7 I5;simp only at D7 I5;generalize I4 l na=z at*;generalize Ea p.R.L na z l=lz at*;have yN:Hid (xc≤z∧z≤xd→xb<lz→n9=false):=O (fun c1 c2=>D7.o (b_ ⟨by omega,c1.1,c1.2,c2⟩));have GG:=O (fun(c: ¬((xc≤z∧z≤xd)∧xb<lz))=>I5.o (v8 (fun e=>c ⟨⟨e.2.1,e.2.2.1⟩,e.2.2.2⟩)));have Ae:=O (ht.alloc (.cells #[.int .i64 na,.int .i64 xb,.int .i64 xc,.int .i64 xd] 83));have cj:=O (aD.o.alloc (.cells #[.int .i64 na,.int .i64 xb,.int .i64 xc,.int .i64 xd] 83));have bx:=j4.new wr 83 #[.int .i64 na,.int .i64 xb,.int .i64 xc,.int .i64 xd];have q0:_=some _:=(bx.cell 0).trans rfl;have q1:_=some _:=(bx.cell 1).trans rfl;have q2:_=some _:=(bx.cell 2).trans rfl;have q3:_=some _:=(bx.cell 3).trans rfl;have f1:=Lib.cell?_alloc_some (.cells #[.int .i64 na,.int .i64 xb,.int .i64 xc,.int .i64 xd] 83) tf;have f2:=Lib.cell?_alloc_some (.cells #[.int .i64 na,.int .i64 xb,.int .i64 xc,.int .i64 xd] 83) m_;clear D7 I5 Hu tf m_ ht;go_wp2_with fail;generalize gN:wr.alloc _=w1 at*;clear gN ca cb cc cd hb bx aD;have Vv:Hid (∃gx,gx=wr.heap.size):=O ⟨_,rfl⟩;obtain⟨gx,Mi⟩:=Vv.o;rw[←Mi]at q0 q1 q2 q3⊢;clear Mi Vv;have HB:=O (hbw.o z xc xd);by_cases Ad:xc≤z∧z≤xd;rotate_left
                      · have Za:decide (xc≤z∧z≤xd)=false:=v8 Ad
                        have W7:=O (GG.out (fun e=>Ad e.1));rw[Za]at HB;go_quiet ((first | (go_at_call 89;exact x8 (HB.o _))));go_wp2_with fail;exact⟨⟨k+1,by omega,by go_num,Ae.o.drewN _,W7⟩,by simp[intOf];omega⟩
                      have Za:decide (xc≤z∧z≤xd)=true:=b_ Ad;rw[Za]at HB;by_cases Cs:xb<lz
                      · have qZ:decide (xb<lz)=true:=b_ Cs
                        have y5:=O (yN.out Ad Cs);go_quiet ((first | (go_at_call 89;exact x8 (HB.o _))));have b9:=Ag.o.z7 (cj.o.drewN nq) (by simp);have wo:_=some _:=(b9.cell 0).trans rfl;have wi:_=some _:=(b9.cell 1).trans rfl;have f90:=b9.frozen 0;have f91:=b9.frozen 1;have Kw:=O b9;have Bq:=O (cj.o.drewN nq);clear b9;go_wp2_with fail;have Ss:=((Kw.o.V8 0 (.int .i64 4)).V8 1 (.int .i64 (k:Int)));refine bodyPost_ret (results_cell_row rfl _ _ (g+1) 62 #[.int .i64 4,.int .i64 (k:Int)] (0,0) _ rfl Ss Tryz.underlying62 rfl (by kernel_rfl)) rfl ⟨4,k,rfl,fun e=>(by rw[y5.o]at e;cases e),fun _=>(by decide),((m9.o.Y Bq.o).setCell (p:=⟨g+1,0,none⟩) (.inr (by have:=HG.o;show w.heap.size≤g+1;omega)) _).setCell (p:=⟨g+1,1,none⟩) (.inr (by have:=HG.o;show w.heap.size≤g+1;omega)) _⟩
                      · have qZ:decide (xb<lz)=false:=v8 Cs
                        have W7:=O (GG.out (fun e=>Cs e.2));go_quiet ((first | (go_at_call 89;exact x8 (HB.o _))));go_wp2_with fail;exact⟨⟨k+1,by omega,by go_num,Ae.o.drewN _,W7⟩,by simp[intOf];omega⟩
                    · have j1: ¬(k:Int)< (p.R.C.length:Int):=by omega
                      have HDc:=O (U8 HX.o (by omega));have HF:=O (qP.o HDd.o HDf.o HDp.o HDc.o);have b9:=Ag.o.z7 aD.o (by simp);have wo:_=some _:=(b9.cell 0).trans rfl;have wi:_=some _:=(b9.cell 1).trans rfl;have f90:=b9.frozen 0;have f91:=b9.frozen 1;have Kw:=O b9;clear b9 HX ht;go_wp2_with fail;have Ss:=(Kw.o.V8 0 (.int .i64 0)).V8 1 (.int .i64 0);refine bodyPost_ret (results_cell_row rfl _ _ (g+1) 62 #[.int .i64 0,.int .i64 0] (0,0) _ rfl Ss Tryz.underlying62 rfl (by kernel_rfl)) rfl ⟨0,0,rfl,fun e=>⟨rfl,rfl⟩,fun e=>(by rw[HF.o]at e;cases e),((m9.o.Y aD.o).setCell (p:=⟨g+1,0,none⟩) (.inr (by have:=HG.o;show w.heap.size≤g+1;omega)) _).setCell (p:=⟨g+1,1,none⟩) (.inr (by have:=HG.o;show w.heap.size≤g+1;omega)) _⟩
end Go.Proofs.YtlhlmcohdkkjpaaGreatDoor
