/- How the arguments of CheckerAccepts read. -/
import Derived.Test.YtlhlmcohdkkjpaaGreatDoorZX
import Derived.Lib.SmallJoins
import Derived.LaidMore
import Derived.Stop.Joined
set_option linter.all false
set_option maxRecDepth 100000
namespace Go.Proofs.YtlhlmcohdkkjpaaGreatDoor
open Go.ChangeShapes Go.WideShapes Go.ChangeAt Go.RowKit Go.Deep Go.Joins
variable{α β:Type}{u:Value}{w:World}
theorem zk8 : ∀l:List (α×β),(l.map Prod.fst).zip (l.map Prod.snd)=l
 | []=>rfl
 | a::t=>by rw[Bw,Bw,List.zip_cons_cons,zk8 t]
theorem zk7 : ∀l:List (α×β),l.flatMap (fun x=> [x.2])=l.map Prod.snd
 | []=>rfl
 | a::t=>by rw[List.flatMap_cons,zk7 t];rfl
theorem Ll {P:Nat→α→Prop}: ∀(n:Nat),(∀i,i<n→ ∃x,P i x)→ ∃l:List α,l.length=n∧ ∀i (hi:i<l.length),P i l[i]
 | 0,_=>⟨[],rfl,fun i hi=>absurd hi (by simp)⟩
 | n+1,h=>by
  obtain⟨l,hl,hp⟩:=Ll n (fun i hi=>h i (by omega));obtain⟨x,hx⟩:=h n (by omega);refine⟨l++ [x],by simp[hl],fun i hi=> ?_⟩;by_cases M8:i<l.length
  ·rw[List.getElem_append_left M8];exact hp i M8
  ·have e:i=l.length:=by simp at hi;omega
   subst e;rw[List.getElem_append_right (by omega)];simp only[Wn,List.getElem_cons_zero];rw[hl];exact hx
theorem xo {b off:Nat}{sp:Option Nat}(h:w.cell? ⟨b,off,sp⟩=some u):sp=none:=by
 unfold World.cell? at h
 cases sp with
 | none=>rfl
 | some x=>simp at h;split at h<;>simp_all
theorem Sm (f:α→List β)(c:Nat)(hc: ∀x,(f x).length=c): ∀xs:List α,(xs.flatMap f).length=xs.length*c
 | []=>by simp
 | x::xs=>by rw[List.flatMap_cons,Ec,hc,Sm f c hc xs,Cz,Yf];omega
theorem T6 (f:α→List Value)(c:Nat)(hp:0<c)(hc: ∀x,(f x).length=c)(l:List α)(A:Option Addr)(cap:Nat)(h1:l.length≤cap)(h2:cap≤maxLen)
  (h:0<l.length→ ∃ad,A=some ad∧ ∀k (hk:k<l.length) j u,j<c→(f l[k])[j]? =some u→w.cell? (ad.add (k*c+j))=some u):Reads w c (.slice A l.length cap) l.length (l.flatMap f):=by
 refine⟨A,cap,rfl,h1,h2,Sm f c hc l,fun hn=> ?_⟩;obtain⟨⟨b,off,sp⟩,rfl,C6⟩:=h hn;have h0:=C6 0 hn 0 _ hp (j6 (by rw[hc];exact hp));have hz:(⟨b,off,sp⟩:Addr).add (0*c+0)=⟨b,off,sp⟩:=by unfold Addr.add;simp
 rw[hz]at h0;have Vq:=xo h0;subst Vq;refine⟨b,off,rfl,World.block_lt_of_cell? w _ h0,fun j u hu=> ?_⟩
 have hj:j<l.length*c:=by
  have:=(U4.1 hu).1
  rwa [Sm f c hc]at this
 have hk:j / c<l.length:=Nat.div_lt_of_lt_mul (by rw[Nat.mul_comm];exact hj);have hm:j % c<c:=Nat.mod_lt _ hp;have e:j / c*c+j % c=j:=by rw[Nat.mul_comm];exact Nat.div_add_mod j c
 have h3:=Uk f c hc l (j / c) (j % c) hk hm;rw[e,hu]at h3;have h4:=C6 (j / c) hk (j % c) u hm h3.symm;rw[e,add_lit]at h4;exact h4
section
variable {H:Type}{enc:TypeId×Value→H}{P:Program}{w:World}{base:Nat}{held:Bool}
theorem He {t e:TypeId}{fs:Array Field}{v:Value}{fuel:Nat}{y0:DataW H×List MemPlace}(ht:P.underlying t=some (.slice e))(he:P.underlying e=some (.struct fs))(I6:oneCellFields P fs=true)(hC:P.cellsOf e=fs.size)
  (hf:DataW.trod enc P w base (fun _=>true) held fuel t [v]=some y0):
  ∃A len cap,v= .slice A len cap∧len≤cap∧cap≤maxLen∧((A=none∧len=0)∨ ∃ad,A=some ad∧ ∀i,i<len→ ∀(j:Nat) (f:Field),fs[j]? =some f→ ∃(u:Value) (n:Nat) (y:DataW H×List MemPlace),w.cell? (ad.add (i*fs.size+j))=some u∧DataW.trod enc P w base (fun _=>true) held n f.type [u]=some y):=by
 rcases open_slice ht hf with⟨Gb,_⟩ | ⟨ad,zb9,Ak,m,n,D,Pl,Gb,_,hl,hm,PK,_,hi⟩
 ·simp at Gb;subst Gb;exact⟨none,0,0,rfl,a9 _,O2 _,.inl ⟨rfl,rfl⟩⟩
 ·simp at Gb;subst Gb;refine⟨_,_,_,rfl,hl,hm,.inr ⟨ad,rfl,fun i him j f hj=> ?_⟩⟩;simp only[if_true]at PK;obtain⟨cs',hc,ht'⟩:=hi i (by omega);rw[hC]at hc;obtain⟨ys,n',_,_,_,hyl,hff⟩:=DataW.trod_struct he ht';obtain⟨_,Nc,OM⟩:=World.cells?_some hc;obtain⟨ho,hk⟩:=hone_of I6 j f hj;have hjl:j<fs.size:=(Mu.1 hj).1;have C6:=OM j hjl;have hv':cs'[j]? =some (cs'[j]'(by omega)):=j6 (by omega);have h1:=hff j f hj;rw[ho,hk]at h1
  have qt9:(cs'.drop j).take 1= [cs'[j]'(by omega)]:=by
   rw[Rd (by omega)];rfl
  rw[qt9]at h1;have hys:ys[j]? =some (ys[j]'(by omega)):=j6 (by omega);refine⟨cs'[j]'(by omega),n',ys[j]'(by omega),?_,h1.trans hys⟩;rw[←Go.Deep.add_add,C6,hv']
theorem pd {r:Reach}{b0:Nat}{t e:TypeId}{v:Value}{d:DataW H}{p:List MemPlace}{sp:Nat→Bool}(ht:P.underlying t=some (.slice e))(hv:Value.okWide P w r b0 t v)(h:DataW.Trod enc P w base sp held t v d p): ∃fuel,DataW.trod enc P w base sp held fuel t [v]=some (d,p):=by
 obtain⟨a,len,cap,rfl⟩:=okWide_slice ht hv;obtain⟨fuel,hf⟩:=h;exact⟨fuel,by simpa[Value.cells]using hf⟩
end
section
variable {H:Type}{enc:TypeId×Value→H}{P:Program}{w:World}{base:Nat}{held:Bool}
theorem qf {t e:TypeId}{v:Value}{fuel:Nat}{y0:DataW H×List MemPlace}(ht:P.underlying t=some (.slice e))(hC:P.cellsOf e=1)
  (hf:DataW.trod enc P w base (fun _=>true) held fuel t [v]=some y0):
  ∃A len cap,v= .slice A len cap∧len≤cap∧cap≤maxLen∧((A=none∧len=0)∨ ∃ad,A=some ad∧ ∀i,i<len→ ∃(u:Value) (n:Nat) (y:DataW H×List MemPlace),w.cell? (ad.add (i*1+0))=some u∧DataW.trod enc P w base (fun _=>true) held n e [u]=some y):=by
 rcases open_slice ht hf with⟨Gb,_⟩ | ⟨ad,zb9,Ak,m,n,D,Pl,Gb,_,hl,hm,PK,_,hi⟩
 ·simp at Gb;subst Gb;exact⟨none,0,0,rfl,a9 _,O2 _,.inl ⟨rfl,rfl⟩⟩
 ·simp at Gb;subst Gb;refine⟨_,_,_,rfl,hl,hm,.inr ⟨ad,rfl,fun i him=> ?_⟩⟩;simp only[if_true]at PK;obtain⟨cs',hc,ht'⟩:=hi i (by omega);rw[hC]at hc;obtain⟨_,Nc,OM⟩:=World.cells?_some hc;have C6:=OM 0 (by omega)
  match cs',Nc,C6,ht' with
  | [u],_,C6,ht'=>exact⟨u,_,_,by rw[←Go.Deep.add_add,C6];rfl,ht'⟩
end
section
variable {H:Type}{enc:TypeId×Value→H}{W:World}{base:Nat}
theorem S4 {u:Value}{n:Nat}{y:DataW H×List MemPlace}(h:DataW.trod enc Tryz.prog W 0 (fun _=>true) true n 3 [u]=some y): ∃m,u=I m∧Fits m:=by
 obtain⟨m,Gb,_,wf⟩:=DataW.trod_int Tryz.underlying3 h;have:=bounds_i64 wf;exact⟨m,by injection Gb,by unfold Fits;omega⟩
theorem SY {a:Option Addr}{len cap:Nat}(zs:List Int)(hl:len≤cap)(hm:cap≤maxLen)(hz:zs.length=cap)(ad:Addr)(ha:a=some ad)(C6: ∀i,i<zs.length→w.cell? (ad.add i)=some (.int .i64 (zs.getD i 0)))
  (hwz: ∀n∈zs,(Lit.int .i64 n).wf=true): ∃l,e8 w (.slice a len cap) l:=by
 subst ha;have hlen:(zs.take len).length=len:=by rw[Y8];omega
 refine⟨zs.take len,?_,fun n hn=> ?_⟩
 ·have h0:=T6 (w:=w) Ao 1 (by omega) (fun _=>rfl) (zs.take len) (some ad) cap (by omega) hm (fun hn=>⟨ad,rfl,fun k hk j u hj hu=>by
   obtain rfl:j=0:=by omega
   simp[Ao]at hu;rw[←hu];have hkz:k<zs.length:=by omega
   have:=C6 k hkz;rw[Sc,Jp,this];unfold I
   simp[List.getD,j6 hkz]⟩)
  rw[hlen]at h0⊢;exact h0
 ·have:=bounds_i64 (hwz n (Qz hn));unfold Fits;omega
theorem Wr {v:Value}{n:Nat}{y:DataW H×List MemPlace}(h:DataW.trod enc Tryz.prog W 0 (fun _=>true) true n 30 [v]=some y): ∃l,e8 W v l:=by
 rcases open_ints Tryz.underlying30 Tryz.underlying3 (by kernel_rfl) h with⟨Gb,_⟩ | ⟨x,l,c,zs,Gb,_,hl,hm,hz,_,C6,hwz⟩
 ·simp at Gb;subst Gb;exact⟨[],Reads.nil _ _,by simp⟩
 ·simp at Gb;subst Gb;exact SY zs hl hm (by simpa using hz) x rfl C6 hwz
theorem kO {v:Value}{n:Nat}{y:DataW H×List MemPlace}(h:DataW.trod enc Tryz.prog W 0 (fun _=>true) true n 32 [v]=some y): ∃xs,Q0 W v xs:=by
 obtain⟨A,len,cap,rfl,h1,h2,hr⟩:=He Tryz.underlying32 Tryz.underlying53 (by kernel_rfl) (by kernel_rfl) h;rcases hr with⟨rfl,rfl⟩ | ⟨ad,rfl,hr⟩
 ·exact⟨[],⟨none,cap,rfl,h1,h2,rfl,fun h=>absurd h (by simp)⟩,by simp⟩
 ·obtain⟨l,hl,hp⟩:=Ll (P:=fun i (x:Cx)=>W.cell? (ad.add (i*2+0))=some (I x.a)∧W.cell? (ad.add (i*2+1))=some (I x.b)∧x.Fit) len (fun i hi=>by
   obtain⟨u0,n0,y0,k0,t0⟩:=hr i hi 0 _ rfl;obtain⟨u1,n1,y1,k1,t1⟩:=hr i hi 1 _ rfl;obtain⟨m0,rfl,f0⟩:=S4 t0;obtain⟨m1,rfl,f1⟩:=S4 t1
   exact⟨⟨m0,m1⟩,k0,k1,f0,f1⟩)
  subst hl;refine⟨l,T6 Cx.cells 2 (by omega) (fun _=>rfl) l (some ad) cap h1 h2 (fun _=>⟨ad,rfl,fun k hk j u hj hu=> ?_⟩),fun x hx=> ?_⟩
  ·obtain⟨a0,a1,_⟩:=hp k hk
   match j,hj,hu with
   | 0,_,hu=>cases hu;exact a0
   | 1,_,hu=>cases hu;exact a1
  ·obtain⟨i,hi,rfl⟩:=Bg hx;exact(hp i hi).2.2
theorem zW {v:Value}{n:Nat}{y:DataW H×List MemPlace}(h:DataW.trod enc Tryz.prog W 0 (fun _=>true) true n 23 [v]=some y): ∃xs:List Q5,C7 5 Q5.cells Q5.Fit W v xs:=by
 obtain⟨A,len,cap,rfl,h1,h2,hr⟩:=He Tryz.underlying23 Tryz.underlying79 (by kernel_rfl) (by kernel_rfl) h;rcases hr with⟨rfl,rfl⟩ | ⟨ad,rfl,hr⟩
 ·exact⟨[],⟨none,cap,rfl,h1,h2,rfl,fun h=>absurd h (by simp)⟩,by simp⟩
 ·obtain⟨l,hl,hp⟩:=Ll (P:=fun i (x:Q5)=>W.cell? (ad.add (i*5+0))=some (I x.a)∧W.cell? (ad.add (i*5+1))=some (I x.b)∧W.cell? (ad.add (i*5+2))=some (I x.c)∧W.cell? (ad.add (i*5+3))=some (I x.d)∧W.cell? (ad.add (i*5+4))=some (I x.e)∧x.Fit) len (fun i hi=>by
   obtain⟨u0,n0,y0,k0,t0⟩:=hr i hi 0 _ rfl;obtain⟨u1,n1,y1,k1,t1⟩:=hr i hi 1 _ rfl;obtain⟨u2,n2,y2,k2,t2⟩:=hr i hi 2 _ rfl;obtain⟨u3,n3,y3,k3,t3⟩:=hr i hi 3 _ rfl;obtain⟨u4,n4,y4,k4,t4⟩:=hr i hi 4 _ rfl;obtain⟨m0,rfl,f0⟩:=S4 t0;obtain⟨m1,rfl,f1⟩:=S4 t1;obtain⟨m2,rfl,f2⟩:=S4 t2;obtain⟨m3,rfl,f3⟩:=S4 t3;obtain⟨m4,rfl,f4⟩:=S4 t4
   exact⟨⟨m0,m1,m2,m3,m4⟩,k0,k1,k2,k3,k4,f0,f1,f2,f3,f4⟩)
  subst hl;refine⟨l,T6 Q5.cells 5 (by omega) (fun _=>rfl) l (some ad) cap h1 h2 (fun _=>⟨ad,rfl,fun k hk j u hj hu=> ?_⟩),fun x hx=> ?_⟩
  ·obtain⟨a0,a1,a2,a3,a4,_⟩:=hp k hk
   match j,hj,hu with
   | 0,_,hu=>cases hu;exact a0
   | 1,_,hu=>cases hu;exact a1
   | 2,_,hu=>cases hu;exact a2
   | 3,_,hu=>cases hu;exact a3
   | 4,_,hu=>cases hu;exact a4
  ·obtain⟨i,hi,rfl⟩:=Bg hx;exact(hp i hi).2.2.2.2.2
theorem zX {v:Value}{n:Nat}{y:DataW H×List MemPlace}(h:DataW.trod enc Tryz.prog W 0 (fun _=>true) true n 24 [v]=some y): ∃xs:List Q5,C7 5 Q5.cells Q5.Fit W v xs:=by
 obtain⟨A,len,cap,rfl,h1,h2,hr⟩:=He Tryz.underlying24 Tryz.underlying81 (by kernel_rfl) (by kernel_rfl) h;rcases hr with⟨rfl,rfl⟩ | ⟨ad,rfl,hr⟩
 ·exact⟨[],⟨none,cap,rfl,h1,h2,rfl,fun h=>absurd h (by simp)⟩,by simp⟩
 ·obtain⟨l,hl,hp⟩:=Ll (P:=fun i (x:Q5)=>W.cell? (ad.add (i*5+0))=some (I x.a)∧W.cell? (ad.add (i*5+1))=some (I x.b)∧W.cell? (ad.add (i*5+2))=some (I x.c)∧W.cell? (ad.add (i*5+3))=some (I x.d)∧W.cell? (ad.add (i*5+4))=some (I x.e)∧x.Fit) len (fun i hi=>by
   obtain⟨u0,n0,y0,k0,t0⟩:=hr i hi 0 _ rfl;obtain⟨u1,n1,y1,k1,t1⟩:=hr i hi 1 _ rfl;obtain⟨u2,n2,y2,k2,t2⟩:=hr i hi 2 _ rfl;obtain⟨u3,n3,y3,k3,t3⟩:=hr i hi 3 _ rfl;obtain⟨u4,n4,y4,k4,t4⟩:=hr i hi 4 _ rfl;obtain⟨m0,rfl,f0⟩:=S4 t0;obtain⟨m1,rfl,f1⟩:=S4 t1;obtain⟨m2,rfl,f2⟩:=S4 t2;obtain⟨m3,rfl,f3⟩:=S4 t3;obtain⟨m4,rfl,f4⟩:=S4 t4
   exact⟨⟨m0,m1,m2,m3,m4⟩,k0,k1,k2,k3,k4,f0,f1,f2,f3,f4⟩)
  subst hl;refine⟨l,T6 Q5.cells 5 (by omega) (fun _=>rfl) l (some ad) cap h1 h2 (fun _=>⟨ad,rfl,fun k hk j u hj hu=> ?_⟩),fun x hx=> ?_⟩
  ·obtain⟨a0,a1,a2,a3,a4,_⟩:=hp k hk
   match j,hj,hu with
   | 0,_,hu=>cases hu;exact a0
   | 1,_,hu=>cases hu;exact a1
   | 2,_,hu=>cases hu;exact a2
   | 3,_,hu=>cases hu;exact a3
   | 4,_,hu=>cases hu;exact a4
  ·obtain⟨i,hi,rfl⟩:=Bg hx;exact(hp i hi).2.2.2.2.2
theorem pj {v:Value}{n:Nat}{y:DataW H×List MemPlace}(h:DataW.trod enc Tryz.prog W 0 (fun _=>true) true n 25 [v]=some y): ∃xs:List Q4,C7 4 Q4.cells Q4.Fit W v xs:=by
 obtain⟨A,len,cap,rfl,h1,h2,hr⟩:=He Tryz.underlying25 Tryz.underlying83 (by kernel_rfl) (by kernel_rfl) h;rcases hr with⟨rfl,rfl⟩ | ⟨ad,rfl,hr⟩
 ·exact⟨[],⟨none,cap,rfl,h1,h2,rfl,fun h=>absurd h (by simp)⟩,by simp⟩
 ·obtain⟨l,hl,hp⟩:=Ll (P:=fun i (x:Q4)=>W.cell? (ad.add (i*4+0))=some (I x.a)∧W.cell? (ad.add (i*4+1))=some (I x.b)∧W.cell? (ad.add (i*4+2))=some (I x.c)∧W.cell? (ad.add (i*4+3))=some (I x.d)∧x.Fit) len (fun i hi=>by
   obtain⟨u0,n0,y0,k0,t0⟩:=hr i hi 0 _ rfl;obtain⟨u1,n1,y1,k1,t1⟩:=hr i hi 1 _ rfl;obtain⟨u2,n2,y2,k2,t2⟩:=hr i hi 2 _ rfl;obtain⟨u3,n3,y3,k3,t3⟩:=hr i hi 3 _ rfl;obtain⟨m0,rfl,f0⟩:=S4 t0;obtain⟨m1,rfl,f1⟩:=S4 t1;obtain⟨m2,rfl,f2⟩:=S4 t2;obtain⟨m3,rfl,f3⟩:=S4 t3
   exact⟨⟨m0,m1,m2,m3⟩,k0,k1,k2,k3,f0,f1,f2,f3⟩)
  subst hl;refine⟨l,T6 Q4.cells 4 (by omega) (fun _=>rfl) l (some ad) cap h1 h2 (fun _=>⟨ad,rfl,fun k hk j u hj hu=> ?_⟩),fun x hx=> ?_⟩
  ·obtain⟨a0,a1,a2,a3,_⟩:=hp k hk
   match j,hj,hu with
   | 0,_,hu=>cases hu;exact a0
   | 1,_,hu=>cases hu;exact a1
   | 2,_,hu=>cases hu;exact a2
   | 3,_,hu=>cases hu;exact a3
  ·obtain⟨i,hi,rfl⟩:=Bg hx;exact(hp i hi).2.2.2.2
theorem pu {v:Value}{n:Nat}{y:DataW H×List MemPlace}(h:DataW.trod enc Tryz.prog W 0 (fun _=>true) true n 22 [v]=some y): ∃ds,C0 W v ds:=by
 obtain⟨A,len,cap,rfl,h1,h2,hr⟩:=He Tryz.underlying22 Tryz.underlying75 (by kernel_rfl) (by kernel_rfl) h;rcases hr with⟨rfl,rfl⟩ | ⟨ad,rfl,hr⟩
 ·exact⟨[],[],rfl,⟨none,cap,rfl,h1,h2,rfl,fun h=>absurd h (by simp)⟩,fun j d c hd=>by simp at hd⟩
 ·obtain⟨l,hl,hp⟩:=Ll (P:=fun i (x:Dx×Value)=>W.cell? (ad.add (i*2+0))=some (I x.1.st)∧W.cell? (ad.add (i*2+1))=some x.2∧Fits x.1.st∧e8 W x.2 x.1.ch) len (fun i hi=>by
   obtain⟨u0,n0,y0,k0,t0⟩:=hr i hi 0 _ rfl;obtain⟨u1,n1,y1,k1,t1⟩:=hr i hi 1 _ rfl;obtain⟨m0,rfl,f0⟩:=S4 t0;obtain⟨ch,PS⟩:=Wr t1
   exact⟨(⟨m0,ch⟩,u1),k0,k1,f0,PS⟩)
  subst hl;have hz:=zk8 l;refine⟨l.map Prod.fst,l.map Prod.snd,by simp,?_,fun j d c hd hc=> ?_⟩
  ·rw[hz,Cy]
   exact T6 Gi 2 (by omega) (fun _=>rfl) l (some ad) cap h1 h2 (fun _=>⟨ad,rfl,fun k hk j u hj hu=>by
    obtain⟨a0,a1,_⟩:=hp k hk
    match j,hj,hu with
    | 0,_,hu=>cases hu;exact a0
    | 1,_,hu=>cases hu;exact a1⟩)
  ·rw[Jq]at hd hc
   cases e:l[j]? with
   | none=>rw[e]at hd;cases hd
   | some x=>
    obtain⟨hj,e2⟩:=U4.1 e;rw[e]at hd hc;cases hd;cases hc;have:=hp j hj;rw[e2]at this;exact this.2.2
theorem pw {v:Value}{n:Nat}{y:DataW H×List MemPlace}(h:DataW.trod enc Tryz.prog W 0 (fun _=>true) true n 33 [v]=some y): ∃ls,C8 2 Cx.cells Cx.Fit W v ls:=by
 obtain⟨A,len,cap,rfl,h1,h2,hr⟩:=qf Tryz.underlying33 (by kernel_rfl) h;rcases hr with⟨rfl,rfl⟩ | ⟨ad,rfl,hr⟩
 ·exact⟨[],[],rfl,⟨none,cap,rfl,h1,h2,rfl,fun h=>absurd h (by simp)⟩,fun j d c hd=>by simp at hd⟩
 ·obtain⟨l,hl,hp⟩:=Ll (P:=fun i (x:List Cx×Value)=>W.cell? (ad.add (i*1+0))=some x.2∧Q0 W x.2 x.1) len (fun i hi=>by
   obtain⟨u0,n0,y0,k0,t0⟩:=hr i hi;obtain⟨g,hg⟩:=kO t0
   exact⟨(g,u0),k0,hg⟩)
  subst hl;refine⟨l.map Prod.fst,l.map Prod.snd,by simp,?_,fun j d c hd hc=> ?_⟩
  ·have hr2:=T6 (w:=W) (fun x:List Cx×Value=> [x.2]) 1 (by omega) (fun _=>rfl) l (some ad) cap h1 h2 (fun _=>⟨ad,rfl,fun k hk j u hj hu=>by
    obtain rfl:j=0:=by omega
    cases hu
    exact(hp k hk).1⟩)
   have e:l.flatMap (fun x:List Cx×Value=> [x.2])=l.map Prod.snd:=by
    exact zk7 l
   rw[e]at hr2;rw[Cy];exact hr2
  ·rw[Jq]at hd hc
   cases e:l[j]? with
   | none=>rw[e]at hd;cases hd
   | some x=>
    obtain⟨hj,e2⟩:=U4.1 e;rw[e]at hd hc;cases hd;cases hc;have:=hp j hj;rw[e2]at this;exact this.2
def IsP (W:World)(v:Value)(p:Px):Prop:= ∃VD VP VL VC,v= .agg #[VD,VP,VL,VC]∧K3 W VD VP VL VC p
def IsA (W:World)(v:Value)(a:ES):Prop:= ∃VA VY VM,v= .agg #[.int .i64 a.k,VA,VY,VM,.int .i64 a.st]∧yQ W VA VY VM a
theorem sg {v:Value}{d:DataW H}{p:List MemPlace}(hv:Value.okWide Tryz.prog W .any base 29 v)(h:DataW.Trod enc Tryz.prog W 0 (fun _=>true) true 29 v d p): ∃q,IsP W v q:=by
 obtain⟨cs,rfl,Cr⟩:=okWide_struct Tryz.underlying29 hv;obtain⟨fuel,hf⟩:=h;obtain⟨xs,n,_,_,_,hlen,hg⟩:=DataW.trod_struct Tryz.underlying29 hf;have hc:Tryz.prog.cellsOf 29=4:=by kernel_rfl
 have c1:Tryz.prog.cellsOf 22=1:=by kernel_rfl
 have c2:Tryz.prog.cellsOf 27=3:=by kernel_rfl
 have c3:Tryz.prog.cellsOf 23=1:=by kernel_rfl
 have c4:Tryz.prog.cellsOf 24=1:=by kernel_rfl
 have c5:Tryz.prog.cellsOf 25=1:=by kernel_rfl
 rw[hc]at Cr;obtain⟨cs⟩:=cs
 match cs,Cr with
 | [v0,v1,v2,v3],_=>
  have h0:=hg 0 _ rfl;have h1:=hg 1 _ rfl;simp only[List.getElem_toArray,List.getElem_cons_zero,List.getElem_cons_succ,c1,c2]at h0 h1;have e0:xs[0]? =some (xs[0]'(by rw[hlen];decide)):=j6 _;have e1:xs[1]? =some (xs[1]'(by rw[hlen];decide)):=j6 _;obtain⟨ds,hds⟩:=pu (h0.trans e0);obtain⟨zs,m,_,_,_,hzl,hz⟩:=DataW.trod_struct Tryz.underlying27 (h1.trans e1);have g0:=hz 0 _ rfl;have g1:=hz 1 _ rfl;have g2:=hz 2 _ rfl;simp only[List.getElem_toArray,List.getElem_cons_zero,List.getElem_cons_succ,c3,c4,c5]at g0 g1 g2;have k0:zs[0]? =some (zs[0]'(by rw[hzl];decide)):=j6 _;have k1:zs[1]? =some (zs[1]'(by rw[hzl];decide)):=j6 _;have k2:zs[2]? =some (zs[2]'(by rw[hzl];decide)):=j6 _;obtain⟨P,hP⟩:=zW (g0.trans k0);obtain⟨L,hL⟩:=zX (g1.trans k1);obtain⟨C,hC⟩:=pj (g2.trans k2);exact⟨⟨ds,⟨P,L,C⟩⟩,v0,v1,v2,v3,rfl,hds,hP,hL,hC⟩
theorem LM {v:Value}{d:DataW H}{p:List MemPlace}(hv:Value.okWide Tryz.prog W .any base 37 v)(h:DataW.Trod enc Tryz.prog W 0 (fun _=>true) true 37 v d p): ∃a,IsA W v a:=by
 obtain⟨cs,rfl,Cr⟩:=okWide_struct Tryz.underlying37 hv;obtain⟨fuel,hf⟩:=h;obtain⟨xs,n,_,_,_,hlen,hg⟩:=DataW.trod_struct Tryz.underlying37 hf;have hc:Tryz.prog.cellsOf 37=5:=by kernel_rfl
 have c1:Tryz.prog.cellsOf 31=1:=by kernel_rfl
 have c2:Tryz.prog.cellsOf 32=1:=by kernel_rfl
 have c3:Tryz.prog.cellsOf 35=2:=by kernel_rfl
 have c4:Tryz.prog.cellsOf 3=1:=by kernel_rfl
 have c5:Tryz.prog.cellsOf 30=1:=by kernel_rfl
 have c6:Tryz.prog.cellsOf 33=1:=by kernel_rfl
 rw[hc]at Cr;obtain⟨cs⟩:=cs
 match cs,Cr with
 | [v0,v1,v2,v3,v4],_=>
  have h0:=hg 0 _ rfl;have h1:=hg 1 _ rfl;have h2:=hg 2 _ rfl;have h3:=hg 3 _ rfl;simp only[List.getElem_toArray,List.getElem_cons_zero,List.getElem_cons_succ,c1,c2,c3,c4]at h0 h1 h2 h3;have e0:xs[0]? =some (xs[0]'(by rw[hlen];decide)):=j6 _;have e1:xs[1]? =some (xs[1]'(by rw[hlen];decide)):=j6 _;have e2:xs[2]? =some (xs[2]'(by rw[hlen];decide)):=j6 _;have e3:xs[3]? =some (xs[3]'(by rw[hlen];decide)):=j6 _;obtain⟨m0,Fe,_,_⟩:=DataW.trod_int Tryz.underlying31 (h0.trans e0);obtain⟨l,hl⟩:=kO (h1.trans e1);obtain⟨zs,m,_,_,_,hzl,hz⟩:=DataW.trod_struct Tryz.underlying35 (h2.trans e2);have g0:=hz 0 _ rfl;have g1:=hz 1 _ rfl;simp only[List.getElem_toArray,List.getElem_cons_zero,List.getElem_cons_succ,c5,c6]at g0 g1;have k0:zs[0]? =some (zs[0]'(by rw[hzl];decide)):=j6 _;have k1:zs[1]? =some (zs[1]'(by rw[hzl];decide)):=j6 _;obtain⟨ys,hys⟩:=Wr (g0.trans k0);obtain⟨ls,l_⟩:=pw (g1.trans k1);obtain⟨m4,rfl,_⟩:=S4 (h3.trans e3);injection Fe with Fe _;subst Fe;exact⟨⟨m0,l,ys,ls,m4⟩,v1,v2,v3,rfl,hl,hys,l_⟩
theorem sy {v:Value}{d:DataW H}{p:List MemPlace}(hv:Value.okWide Tryz.prog W .any base 30 v)(h:DataW.Trod enc Tryz.prog W 0 (fun _=>true) true 30 v d p): ∃xs,e8 W v xs:=by
 obtain⟨fuel,hf⟩:=pd Tryz.underlying30 hv h;exact Wr hf
end
end Go.Proofs.YtlhlmcohdkkjpaaGreatDoor
