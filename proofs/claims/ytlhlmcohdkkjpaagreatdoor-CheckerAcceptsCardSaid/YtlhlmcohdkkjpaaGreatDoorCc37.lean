/- Package checker: Accepts. -/
import Derived.Test.YtlhlmcohdkkjpaaGreatDoorZW
set_option linter.all false
set_option maxHeartbeats 32000000
set_option maxRecDepth 100000
namespace Go.Proofs.YtlhlmcohdkkjpaaGreatDoor
open Go.RowKit
structure ES where
 k:Int
 l:List Cx
 ys:List Int
 ls:List (List Cx)
 st:Int
structure yQ (w:World)(VA VY VM:Value)(a:ES):Prop where
 l:Q0 w VA a.l
 y:e8 w VY a.ys
 m:C8 2 Cx.cells Cx.Fit w VM a.ls
variable{a:ES}{xs:List Int}{p:Px}{w w':World}
theorem yQ.q8 {VA VY VM:Value}(h:yQ w VA VY VM a)(t:z6 [] w w'):yQ w' VA VY VM a:=⟨h.l.q8 t,h.y.q8 t,h.m.q8 t⟩
structure GO (a:ES):Prop where
 l:a.l.length≤100000
 y:a.ys.length≤100000
 m:a.ls.length≤100000
 g: ∀x∈a.ls,x.length≤100000
def rZ (p:Px)(ys:List Int)(ls:List (List Cx)):Prop:=C1 ys ls=true∧W0 p ys=true∧Dt (c_ p ys) ls ls.length
def o4 (p:Px)(xs:List Int)(a:ES):Prop:=0≤a.st∧((a.k=1∧a.ys.length=0∧a.ls.length=0∧Iw a.l=true∧B5 (c_ p xs) a.l=true)∨(a.k=2∧a.l.length=0∧rZ p a.ys a.ls∧ ∀y∈a.ys,y∈xs)∨(a.k=0∧a.ys.length=0∧a.ls.length=0∧a.l.length=0))
def X1 (p:Px)(xs:List Int)(a:ES)(w:World)(r:Ending)(w':World):Prop:=
 z6 [] w w'∧(((J5 p&&Fa xs)=false∧r= .returned (.tuple #[.bool false,.int .i64 2]))∨
 (J5 p=true∧Fa xs=true∧W0 p xs=false∧r= .returned (.tuple #[.bool false,.int .i64 9]))∨
 (J5 p=true∧Fa xs=true∧W0 p xs=true∧ ∃b:Bool,r= .returned (.tuple #[.bool b,.int .i64 0])∧(b=true↔o4 p xs a)))
theorem X1.yes (h:J5 p=true∧Fa xs=true∧W0 p xs=true)(t:z6 [] w w')(hr:o4 p xs a):X1 p xs a w (.returned (.tuple #[.bool true,.int .i64 0])) w':=⟨t,.inr (.inr ⟨h.1,h.2.1,h.2.2,true,rfl,fun _=>hr,fun _=>rfl⟩)⟩
theorem X1.no (h:J5 p=true∧Fa xs=true∧W0 p xs=true)(t:z6 [] w w')(hr: ¬o4 p xs a):X1 p xs a w (.returned (.tuple #[.bool false,.int .i64 0])) w':=⟨t,.inr (.inr ⟨h.1,h.2.1,h.2.2,false,rfl,fun e=>(by cases e),fun e=>absurd e hr⟩)⟩
theorem Fz (h1:a.k≠0)(h2:a.k≠1)(h3:a.k≠2): ¬o4 p xs a:=by
 rintro⟨-,h | h | h⟩
 ·exact h2 h.1
 ·exact h3 h.1
 ·exact h1 h.1
theorem Ps (h:a.k=1):o4 p xs a↔0≤a.st∧(a.ys.length=0∧a.ls.length=0)∧Iw a.l=true∧B5 (c_ p xs) a.l=true:=by
 unfold o4;constructor
 ·rintro⟨h0,h1 | h1 | h1⟩
  ·exact⟨h0,⟨h1.2.1,h1.2.2.1⟩,h1.2.2.2⟩
  ·have:=h1.1;omega
  ·have:=h1.1;omega
 ·rintro⟨h0,h1,h2⟩;exact⟨h0,.inl ⟨h,h1.1,h1.2,h2⟩⟩
theorem Pr (h:a.k=2):o4 p xs a↔0≤a.st∧a.l.length=0∧rZ p a.ys a.ls∧ ∀y∈a.ys,y∈xs:=by
 unfold o4;constructor
 ·rintro⟨h0,h1 | h1 | h1⟩
  ·have:=h1.1;omega
  ·exact⟨h0,h1.2⟩
  ·have:=h1.1;omega
 ·rintro⟨h0,h1⟩;exact⟨h0,.inr (.inl ⟨h,h1⟩)⟩
theorem Pt (h:a.k=0):o4 p xs a↔0≤a.st∧(a.ys.length=0∧a.ls.length=0)∧a.l.length=0:=by
 unfold o4;constructor
 ·rintro⟨h0,h1 | h1 | h1⟩
  ·have:=h1.1;omega
  ·have:=h1.1;omega
  ·exact⟨h0,⟨h1.2.1,h1.2.2.1⟩,h1.2.2.2⟩
 ·rintro⟨h0,h1,h2⟩;exact⟨h0,.inr (.inr ⟨h,h1.1,h1.2,h2⟩)⟩
theorem wP (p:Px)(VD VP VL VC VS VA VY VM:Value)(xs:List Int)(a:ES)(w:World)(h:K3 w VD VP VL VC p)(hl:P0 p)(jO:Y1 w)(hS:e8 w VS xs)(Ks:xs.length≤100000)(hA:yQ w VA VY VM a)(wW:GO a):Calls Tryz.prog 6 #[.agg #[VD,VP,VL,VC],VS,.agg #[.int .i64 a.k,VA,VY,VM,.int .i64 a.st]] w (X1 p xs a w):=by
 have HRA:=O (fun(e1:(J5 p&&Fa xs)=false) (W:World) (t:z6 [] w W)=>pP p VD VP VL VC VS xs W (h.q8 t) hl (hS.q8 t) Ks e1);have N_:=O (fun(e1:J5 p=true) (e2:Fa xs=true) (e3:W0 p xs=false) (W:World) (t:z6 [] w W)=>Rh p VD VP VL VC VS xs W (h.q8 t) hl (hS.q8 t) Ks e1 e2 e3);have HRO:=O (fun(e1:J5 p=true) (e2:Fa xs=true) (e3:W0 p xs=true) (W:World) (t:z6 [] w W)=>Yq p VD VP VL VC VS xs W (h.q8 t) hl (hS.q8 t) Ks e1 e2 e3);have HCK:=O (fun(W:World) (vD vP vL vC:Value) (hq:K3 W vD vP vL vC (c_ p xs)) (t:z6 [] w W)=>BK (c_ p xs) vD vP vL vC VA a.l W hq (hA.l.q8 t) (Dv hl xs) wW.l);have GF:=p7 (fun W t=>jE p VD VP VL VC VY VM a.ys a.ls W (h.q8 t) hl (jO.q8 t) (hA.y.q8 t) (hA.m.q8 t) wW.y wW.m wW.g);have qq6:=O (fun(e:Fa xs=true) (W:World) (t:z6 [] w W)=>Li VS xs W (hS.q8 t) (R5 e));have HSY:=O (fun(e:Fa a.ys=true) (W:World) (t:z6 [] w W)=>Li VY a.ys W (hA.y.q8 t) (R5 e));have mr:=O (fun(e:J5 p=true)=>Cj e xs);obtain⟨AD,cD,rfl,-,-⟩:=h.d.form;obtain⟨AP,cP,rfl⟩:=h.pr.form;obtain⟨AL,cL,rfl⟩:=h.ld.form;obtain⟨AC,cC,rfl⟩:=h.cp.form;obtain⟨AS,cS,rfl⟩:=hS.form;obtain⟨AA,cA,rfl⟩:=hA.l.form;obtain⟨AY,cY,rfl⟩:=hA.y.form;obtain⟨AM,cM,rfl⟩:=hA.m.form;have b0:=j4.new w 29 #[.slice AD p.D.length cD,.slice AP p.R.P.length cP,.slice AL p.R.L.length cL,.slice AC p.R.C.length cC];have t0:=((z8 [] w).alloc (.cells #[.slice AD p.D.length cD,.slice AP p.R.P.length cP,.slice AL p.R.L.length cL,.slice AC p.R.C.length cC] 29)).alloc (.cells #[.int .i64 a.k,.slice AA a.l.length cA,.slice AY a.ys.length cY,.slice AM a.ls.length cM,.int .i64 a.st] 37);have b1:=j4.new (w.alloc (.cells #[.slice AD p.D.length cD,.slice AP p.R.P.length cP,.slice AL p.R.L.length cL,.slice AC p.R.C.length cC] 29)) 37 #[.int .i64 a.k,.slice AA a.l.length cA,.slice AY a.ys.length cY,.slice AM a.ls.length cM,.int .i64 a.st];have b2:=b0.alloc (.cells #[.int .i64 a.k,.slice AA a.l.length cA,.slice AY a.ys.length cY,.slice AM a.ls.length cM,.int .i64 a.st] 37);simp only[World.size_alloc]at b1;have HC:Hid (∀W',z6 [] ((w.alloc (.cells #[.slice AD p.D.length cD,.slice AP p.R.P.length cP,.slice AL p.R.L.length cL,.slice AC p.R.C.length cC] 29)).alloc (.cells #[.int .i64 a.k,.slice AA a.l.length cA,.slice AY a.ys.length cY,.slice AM a.ls.length cM,.int .i64 a.st] 37)) W'→(W'.cell? ⟨w.heap.size,0,none⟩=some (.slice AD p.D.length cD)∧W'.cell? ⟨w.heap.size,1,none⟩=some (.slice AP p.R.P.length cP)∧W'.cell? ⟨w.heap.size,2,none⟩=some (.slice AL p.R.L.length cL)∧W'.cell? ⟨w.heap.size,3,none⟩=some (.slice AC p.R.C.length cC))∧W'.cell? ⟨w.heap.size+1,0,none⟩=some (.int .i64 a.k)∧W'.cell? ⟨w.heap.size+1,1,none⟩=some (.slice AA a.l.length cA)∧W'.cell? ⟨w.heap.size+1,2,none⟩=some (.slice AY a.ys.length cY)∧W'.cell? ⟨w.heap.size+1,3,none⟩=some (.slice AM a.ls.length cM)∧W'.cell? ⟨w.heap.size+1,4,none⟩=some (.int .i64 a.st)):=O (fun W' t=>⟨⟨((b2.z7 t (by simp)).cell 0).trans rfl,((b2.z7 t (by simp)).cell 1).trans rfl,((b2.z7 t (by simp)).cell 2).trans rfl,((b2.z7 t (by simp)).cell 3).trans rfl⟩,((b1.z7 t (by simp)).cell 0).trans rfl,((b1.z7 t (by simp)).cell 1).trans rfl,((b1.z7 t (by simp)).cell 2).trans rfl,((b1.z7 t (by simp)).cell 3).trans rfl,((b1.z7 t (by simp)).cell 4).trans rfl⟩);have m9:=O t0;clear h hl jO b0 b1 b2 t0 hS Ks hA wW;go_enter Tryz.func6,Tryz.ntmps6;go_upto_region 1 with fail
 generalize (w.alloc _).alloc _=wa at HC m9⊢;obtain⟨⟨c0,c1,c2,c3⟩,-⟩:=HC.o _ (z8 [] _)
 cases J3:(J5 p&&Fa xs)with
 | false=>
  have Na:=HRA.o J3 wa m9.o;unfold Q3 at Na;have rG:=O Na;have Y7:=O J3;clear Na J3;go_wp2_with fail;refine rG.o.mono ?_;rintro r w1 ⟨rfl,t1⟩;have J6:=O (m9.o.Y t1);clear t1 c0 c1 c2 c3;go_wp2_with fail;go_ret2;exact⟨J6.o.alloc _,.inl ⟨Y7.o,rfl⟩⟩
 | true=>
  obtain⟨yB,nB⟩:=(p9 _ _).mp J3;clear J3
  cases xJ:W0 p xs with
  | false=>
   have Na:=N_.o yB nB xJ wa m9.o;unfold Q3 at Na;have rG:=O Na;have Y7:=O (And.intro yB (And.intro nB xJ));clear Na yB nB xJ;go_wp2_with fail;refine rG.o.mono ?_;rintro r w1 ⟨rfl,t1⟩;have J6:=O (m9.o.Y t1);clear t1 c0 c1 c2 c3;go_wp2_with fail;go_ret2;exact⟨J6.o.alloc _,.inr (.inl ⟨Y7.o.1,Y7.o.2.1,Y7.o.2.2,rfl⟩)⟩
  | true=>
   have rG:=O (HRO.o yB nB xJ wa m9.o);have Y7:=O (And.intro yB (And.intro nB xJ));have HOQ:=O (mr.o yB);have M_:=O (qq6.o nB);have xR:=O (R5 nB);have mc:=O (Ca (R5 nB));clear yB nB xJ;go_wp2_with fail;refine rG.o.mono ?_;rintro r w2 ⟨vD,vP,vL,vC,rfl,hq,t2⟩;obtain⟨A1,k1,rfl,-,-⟩:=hq.d.form;obtain⟨A2,k2,rfl⟩:=hq.pr.form;obtain⟨A3,k3,rfl⟩:=hq.ld.form;obtain⟨A4,k4,rfl⟩:=hq.cp.form;have TA:=(z8 [] w2).alloc (.cells #[.slice A1 (c_ p xs).D.length k1,.slice A2 (c_ p xs).R.P.length k2,.slice A3 (c_ p xs).R.L.length k3,.slice A4 (c_ p xs).R.C.length k4] 29);have BX:=j4.new w2 29 #[.slice A1 (c_ p xs).D.length k1,.slice A2 (c_ p xs).R.P.length k2,.slice A3 (c_ p xs).R.L.length k3,.slice A4 (c_ p xs).R.C.length k4];have V3:=O (m9.o.Y (t2.Y TA));have EI:=O (hq.q8 TA);have Q8:=O (t2.Y TA);clear c0 c1 c2 c3 HRA N_ HRO rG mr qq6 hq;go_upto_region 2 with fail
   generalize w2.alloc _=w3 at BX TA V3 EI Q8⊢;obtain⟨gq,jL⟩: ∃gq,gq=w2.heap.size:=⟨_,rfl⟩;rw[←jL]at BX⊢;clear jL TA t2;obtain⟨q0,q1,q2,q3⟩:=BX.F2;obtain⟨⟨c0,c1,c2,c3⟩,a0,a1,a2,a3,a4⟩:=HC.o w3 Q8.o;have DG:=p7 (fun W t=>(HC.o W (Q8.o.Y t)).2);have HCH:=p7 (fun W t=>HCK.o W _ _ _ _ (EI.o.q8 t) (V3.o.Y t));have P_:=p7 (fun W t=>GF.o W (V3.o.Y t));clear BX HC HCK GF EI;by_cases Z7:a.st<0
   ·go_wp2_with fail;go_ret2;exact X1.no Y7.o V3.o (fun e=>by have:=e.1;omega)
   have Q9:Hid (0≤a.st):=O (by omega);by_cases Rj:a.ys.length=0
   ·have ZZ:((a.ys.length:Int)==0)=true:=by simpa using Rj
    by_cases Fe:a.ls.length=0
    ·have mq:((a.ls.length:Int)==0)=true:=by simpa using Fe
     have bH:=O (And.intro Rj Fe);clear Rj Fe;by_cases Ku:a.k=1
     ·have Qj:(a.k==1)=true:=by simpa using Ku
      have HR:=O (Ps (p:=p) (xs:=xs) Ku);go_wp2_with fail;refine(HCH.o _ (z8 _ _)).mono ?_;rintro r w5 ⟨vk,vi,ve,rfl,g1,g2,g3,t5⟩;have K8:=O (V3.o.Y t5);clear t5 q0 q1 q2 q3 a0 a1 a2 a3 a4
      cases hc:Iw a.l with
      | false=>
       obtain⟨rfl,rfl⟩:=g2 (by rw[HOQ.o,hc];rfl);have T4:Hid (¬o4 p xs a):=O (fun e=>by have:=(HR.o.1 e).2.2.1;rw[hc]at this;cases this);clear g1 g2 g3 hc;go_wp2_with fail;go_ret2;exact X1.no Y7.o (K8.o.alloc _) T4.o
      | true=>
       obtain rfl:=g1 (by rw[HOQ.o,hc];rfl);have g4:=g3 (by rw[HOQ.o,hc];rfl);by_cases hv:vk=0
       ·subst hv;have gZ:=O (HR.o.2 ⟨Q9.o,bH.o,hc,g4.1 rfl⟩);clear g1 g2 g3 g4 hc;go_wp2_with fail;go_ret2;exact X1.yes Y7.o (K8.o.alloc _) gZ.o
       ·have hvb:(vk==0)=false:=by simpa using hv
        have T4:Hid (¬o4 p xs a):=O (fun e=>hv (g4.2 (HR.o.1 e).2.2.2));clear g1 g2 g3 g4 hc;go_wp2_with fail;go_ret2;exact X1.no Y7.o (K8.o.alloc _) T4.o
     have Qj:(a.k==1)=false:=by simpa using Ku
     by_cases V9:a.k=2
     ·have U3:(a.k==2)=true:=by simpa using V9
      have HR:=O (Pr (p:=p) (xs:=xs) V9);by_cases Hk:0<a.l.length
      ·have Rq:(0:Int)< (a.l.length:Int):=by omega
       have T4:Hid (¬o4 p xs a):=O (fun e=>by have:=(HR.o.1 e).2.1;omega);go_wp2_with fail;go_ret2;exact X1.no Y7.o V3.o T4.o
      ·have Rq: ¬(0:Int)< (a.l.length:Int):=by omega
       have EK:Hid (a.l.length=0):=O (by omega);go_wp2_with fail;refine(P_.o _ (z8 _ _)).mono ?_;rintro r w5 ⟨t5,(⟨e1,rfl⟩ | ⟨-,e2,e3,rfl⟩ | ⟨-,e2,e3,k,e4,rfl⟩)⟩
       ·have K8:=O (V3.o.Y t5);have T4:Hid (¬o4 p xs a):=O (fun e=>by have h:=(HR.o.1 e).2.2.1.1;rw[Y7.o.1,h]at e1;cases e1);clear t5 e1 q0 q1 q2 q3 a0 a1 a2 a3 a4;go_wp2_with fail;go_ret2;exact X1.no Y7.o K8.o T4.o
       ·have K8:=O (V3.o.Y t5);have T4:Hid (¬o4 p xs a):=O (fun e=>by have h:=(HR.o.1 e).2.2.1.2.1;rw[h]at e3;cases e3);clear t5 e2 e3 q0 q1 q2 q3 a0 a1 a2 a3 a4;go_wp2_with fail;go_ret2;exact X1.no Y7.o K8.o T4.o
       ·have K8:=O (V3.o.Y t5);have Tj:=O t5;by_cases I1:k<a.ls.length
        ·have T4:Hid (¬o4 p xs a):=O (fun e=>by have h:=(HR.o.1 e).2.2.1.2.2;have:=h.unique e4;omega);rw[x9 I1];clear t5 e2 e3 e4 q0 q1 q2 q3 a0 a1 a2 a3 a4;go_wp2_with fail;go_ret2;exact X1.no Y7.o K8.o T4.o
        ·have Bb:Hid (rZ p a.ys a.ls):=O ⟨e2,e3,by
          have h1:=e4.le;obtain rfl:k=a.ls.length:=by omega
          exact e4⟩
         rw[z9 I1];have xP:=O (HSY.o (Fp e2));have EM:=O (R5 (Fp e2));clear t5 e2 e3 e4 q0 q1 q2 q3 a0 a1 a2 a3 a4;obtain⟨a0,a1,a2,a3,a4⟩:=DG.o w5 Tj.o;have hz:=jV;go_wp2_with fail;refine(M_.o _ K8.o).mono ?_;rintro r w6 ⟨rfl,t6⟩;have WE:=m8 mc.o;have Vs:=V7 (D9 xs);have XG:=O (Ca EM.o);have uz:=O (fun(W:World)=>Ok (D9 a.ys) (D9 xs) XG.o mc.o W);have WD:=m8 XG.o;have hoy:=V7 (D9 a.ys)
         have XI:Hid (Ta (D9 a.ys) (D9 xs)=true↔ ∀y∈a.ys,y∈xs):=O (by
          rw[Ju];constructor
          ·intro h y hy;have h2:=h y (by rw[Y4 EM.o];simpa using hy);rw[Y4 xR.o]at h2;simpa using h2
          ·intro h n hn;rw[Y4 EM.o]at hn;rw[Y4 xR.o]
           simpa using h n (by simpa using hn))
         unfold T5 at xP uz⊢;generalize ((D9 xs).map y6).toArray=csx at*;generalize ((D9 a.ys).map y6).toArray=csy at*;go_upto_region 15 with(first | (refine D0 (j4.new _ _ _) (m8 L5) WE Vs ?_;intro w7 b7 t7))
         have EF:=((z8 [] w6).alloc (.cells ((l8.map y6).toArray) 69)).step t7 (fun m hm=> .inr (by rw[y7]at hm;omega));have xN:=O (K8.o.Y (t6.Y EF));have FZ:=O (Tj.o.Y (t6.Y EF));have hO:=O b7;obtain⟨gx,Mi⟩: ∃gx,gx=w6.heap.size:=⟨_,rfl⟩;rw[←Mi]at hO⊢;clear a0 a1 a2 a3 a4 t6 t7 b7 EF Mi;obtain⟨a0,a1,a2,a3,a4⟩:=DG.o w7 FZ.o;go_wp2_with fail;refine(xP.o _ xN.o).mono ?_;rintro r w8 ⟨rfl,t8⟩;go_upto_region 16 with(first | (refine D0 (j4.new _ _ _) (m8 L5) WD hoy ?_;intro w9 b9 t9))
         have EE:=((z8 [] w8).alloc (.cells ((l8.map y6).toArray) 69)).step t9 (fun m hm=> .inr (by rw[y7]at hm;omega));have Bq:=O (xN.o.Y (t8.Y EE));have Kw:=O b9;have J_:=O (hO.o.z7 (t8.Y EE) (by simp));obtain⟨gy,WN⟩: ∃gy,gy=w8.heap.size:=⟨_,rfl⟩;rw[←WN]at Kw⊢;clear a0 a1 a2 a3 a4 t8 t9 b9 EE WN hz;go_wp2_with (first | (refine U5 Kw.o WD ?_) | (refine U5 J_.o WE ?_));refine(uz.o _).mono ?_;rintro r ZO ⟨rfl,t10⟩;have sB:=O (Bq.o.Y t10);clear t10
         cases Sw:Ta (D9 a.ys) (D9 xs)with
         | true=>
          have gZ:=O (HR.o.2 ⟨Q9.o,EK.o,Bb.o,XI.o.1 Sw⟩);clear Sw;go_wp2_with fail;go_ret2;exact X1.yes Y7.o sB.o gZ.o
         | false=>
          have T4:Hid (¬o4 p xs a):=O (fun e=>by have:=XI.o.2 (HR.o.1 e).2.2.2;rw[Sw]at this;cases this);clear Sw;go_wp2_with fail;go_ret2;exact X1.no Y7.o sB.o T4.o
     have U3:(a.k==2)=false:=by simpa using V9
     by_cases Em:a.k=0
     ·have jM:(a.k==0)=true:=by simpa using Em
      have HR:=O (Pt (p:=p) (xs:=xs) Em);by_cases Hk:a.l.length=0
      ·have Rq:((a.l.length:Int)==0)=true:=by simpa using Hk
       go_wp2_with fail;go_ret2;exact X1.yes Y7.o V3.o (HR.o.2 ⟨Q9.o,bH.o,Hk⟩)
      ·have Rq:((a.l.length:Int)==0)=false:=by simpa using Hk
       go_wp2_with fail;go_ret2;exact X1.no Y7.o V3.o (fun e=>Hk (HR.o.1 e).2.2)
     have jM:(a.k==0)=false:=by simpa using Em
     go_wp2_with fail;go_ret2;exact X1.no Y7.o V3.o (Fz Em Ku V9)
    ·have mq:((a.ls.length:Int)==0)=false:=by simpa using Fe
     have bH:Hid (¬(a.ys.length=0∧a.ls.length=0)):=O (fun e=>Fe e.2);clear Rj Fe;by_cases Ku:a.k=1
     ·have Qj:(a.k==1)=true:=by simpa using Ku
      have HR:=O (Ps (p:=p) (xs:=xs) Ku);go_wp2_with fail;refine(HCH.o _ (z8 _ _)).mono ?_;rintro r w5 ⟨vk,vi,ve,rfl,g1,g2,g3,t5⟩;have K8:=O (V3.o.Y t5);clear t5 q0 q1 q2 q3 a0 a1 a2 a3 a4;go_wp2_with fail;go_ret2;exact X1.no Y7.o (K8.o.alloc _) (fun e=>bH.o (HR.o.1 e).2.1)
     have Qj:(a.k==1)=false:=by simpa using Ku
     by_cases V9:a.k=2
     ·have U3:(a.k==2)=true:=by simpa using V9
      have HR:=O (Pr (p:=p) (xs:=xs) V9);by_cases Hk:0<a.l.length
      ·have Rq:(0:Int)< (a.l.length:Int):=by omega
       have T4:Hid (¬o4 p xs a):=O (fun e=>by have:=(HR.o.1 e).2.1;omega);go_wp2_with fail;go_ret2;exact X1.no Y7.o V3.o T4.o
      ·have Rq: ¬(0:Int)< (a.l.length:Int):=by omega
       have EK:Hid (a.l.length=0):=O (by omega);go_wp2_with fail;refine(P_.o _ (z8 _ _)).mono ?_;rintro r w5 ⟨t5,(⟨e1,rfl⟩ | ⟨-,e2,e3,rfl⟩ | ⟨-,e2,e3,k,e4,rfl⟩)⟩
       ·have K8:=O (V3.o.Y t5);have T4:Hid (¬o4 p xs a):=O (fun e=>by have h:=(HR.o.1 e).2.2.1.1;rw[Y7.o.1,h]at e1;cases e1);clear t5 e1 q0 q1 q2 q3 a0 a1 a2 a3 a4;go_wp2_with fail;go_ret2;exact X1.no Y7.o K8.o T4.o
       ·have K8:=O (V3.o.Y t5);have T4:Hid (¬o4 p xs a):=O (fun e=>by have h:=(HR.o.1 e).2.2.1.2.1;rw[h]at e3;cases e3);clear t5 e2 e3 q0 q1 q2 q3 a0 a1 a2 a3 a4;go_wp2_with fail;go_ret2;exact X1.no Y7.o K8.o T4.o
       ·have K8:=O (V3.o.Y t5);have Tj:=O t5;by_cases I1:k<a.ls.length
        ·have T4:Hid (¬o4 p xs a):=O (fun e=>by have h:=(HR.o.1 e).2.2.1.2.2;have:=h.unique e4;omega);rw[x9 I1];clear t5 e2 e3 e4 q0 q1 q2 q3 a0 a1 a2 a3 a4;go_wp2_with fail;go_ret2;exact X1.no Y7.o K8.o T4.o
        ·have Bb:Hid (rZ p a.ys a.ls):=O ⟨e2,e3,by
          have h1:=e4.le;obtain rfl:k=a.ls.length:=by omega
          exact e4⟩
         rw[z9 I1];have xP:=O (HSY.o (Fp e2));have EM:=O (R5 (Fp e2));clear t5 e2 e3 e4 q0 q1 q2 q3 a0 a1 a2 a3 a4;obtain⟨a0,a1,a2,a3,a4⟩:=DG.o w5 Tj.o;have hz:=jV;go_wp2_with fail;refine(M_.o _ K8.o).mono ?_;rintro r w6 ⟨rfl,t6⟩;have WE:=m8 mc.o;have Vs:=V7 (D9 xs);have XG:=O (Ca EM.o);have uz:=O (fun(W:World)=>Ok (D9 a.ys) (D9 xs) XG.o mc.o W);have WD:=m8 XG.o;have hoy:=V7 (D9 a.ys)
         have XI:Hid (Ta (D9 a.ys) (D9 xs)=true↔ ∀y∈a.ys,y∈xs):=O (by
          rw[Ju];constructor
          ·intro h y hy;have h2:=h y (by rw[Y4 EM.o];simpa using hy);rw[Y4 xR.o]at h2;simpa using h2
          ·intro h n hn;rw[Y4 EM.o]at hn;rw[Y4 xR.o]
           simpa using h n (by simpa using hn))
         unfold T5 at xP uz⊢;generalize ((D9 xs).map y6).toArray=csx at*;generalize ((D9 a.ys).map y6).toArray=csy at*;go_upto_region 15 with(first | (refine D0 (j4.new _ _ _) (m8 L5) WE Vs ?_;intro w7 b7 t7))
         have EF:=((z8 [] w6).alloc (.cells ((l8.map y6).toArray) 69)).step t7 (fun m hm=> .inr (by rw[y7]at hm;omega));have xN:=O (K8.o.Y (t6.Y EF));have FZ:=O (Tj.o.Y (t6.Y EF));have hO:=O b7;obtain⟨gx,Mi⟩: ∃gx,gx=w6.heap.size:=⟨_,rfl⟩;rw[←Mi]at hO⊢;clear a0 a1 a2 a3 a4 t6 t7 b7 EF Mi;obtain⟨a0,a1,a2,a3,a4⟩:=DG.o w7 FZ.o;go_wp2_with fail;refine(xP.o _ xN.o).mono ?_;rintro r w8 ⟨rfl,t8⟩;go_upto_region 16 with(first | (refine D0 (j4.new _ _ _) (m8 L5) WD hoy ?_;intro w9 b9 t9))
         have EE:=((z8 [] w8).alloc (.cells ((l8.map y6).toArray) 69)).step t9 (fun m hm=> .inr (by rw[y7]at hm;omega));have Bq:=O (xN.o.Y (t8.Y EE));have Kw:=O b9;have J_:=O (hO.o.z7 (t8.Y EE) (by simp));obtain⟨gy,WN⟩: ∃gy,gy=w8.heap.size:=⟨_,rfl⟩;rw[←WN]at Kw⊢;clear a0 a1 a2 a3 a4 t8 t9 b9 EE WN hz;go_wp2_with (first | (refine U5 Kw.o WD ?_) | (refine U5 J_.o WE ?_));refine(uz.o _).mono ?_;rintro r ZO ⟨rfl,t10⟩;have sB:=O (Bq.o.Y t10);clear t10
         cases Sw:Ta (D9 a.ys) (D9 xs)with
         | true=>
          have gZ:=O (HR.o.2 ⟨Q9.o,EK.o,Bb.o,XI.o.1 Sw⟩);clear Sw;go_wp2_with fail;go_ret2;exact X1.yes Y7.o sB.o gZ.o
         | false=>
          have T4:Hid (¬o4 p xs a):=O (fun e=>by have:=XI.o.2 (HR.o.1 e).2.2.2;rw[Sw]at this;cases this);clear Sw;go_wp2_with fail;go_ret2;exact X1.no Y7.o sB.o T4.o
     have U3:(a.k==2)=false:=by simpa using V9
     by_cases Em:a.k=0
     ·have jM:(a.k==0)=true:=by simpa using Em
      have HR:=O (Pt (p:=p) (xs:=xs) Em);go_wp2_with fail;go_ret2;exact X1.no Y7.o V3.o (fun e=>bH.o (HR.o.1 e).2.1)
     have jM:(a.k==0)=false:=by simpa using Em
     go_wp2_with fail;go_ret2;exact X1.no Y7.o V3.o (Fz Em Ku V9)
   ·have ZZ:((a.ys.length:Int)==0)=false:=by simpa using Rj
    have bH:Hid (¬(a.ys.length=0∧a.ls.length=0)):=O (fun e=>Rj e.1);clear Rj;by_cases Ku:a.k=1
    ·have Qj:(a.k==1)=true:=by simpa using Ku
     have HR:=O (Ps (p:=p) (xs:=xs) Ku);go_wp2_with fail;refine(HCH.o _ (z8 _ _)).mono ?_;rintro r w5 ⟨vk,vi,ve,rfl,g1,g2,g3,t5⟩;have K8:=O (V3.o.Y t5);clear t5 q0 q1 q2 q3 a0 a1 a2 a3 a4;go_wp2_with fail;go_ret2;exact X1.no Y7.o (K8.o.alloc _) (fun e=>bH.o (HR.o.1 e).2.1)
    have Qj:(a.k==1)=false:=by simpa using Ku
    by_cases V9:a.k=2
    ·have U3:(a.k==2)=true:=by simpa using V9
     have HR:=O (Pr (p:=p) (xs:=xs) V9);by_cases Hk:0<a.l.length
     ·have Rq:(0:Int)< (a.l.length:Int):=by omega
      have T4:Hid (¬o4 p xs a):=O (fun e=>by have:=(HR.o.1 e).2.1;omega);go_wp2_with fail;go_ret2;exact X1.no Y7.o V3.o T4.o
     ·have Rq: ¬(0:Int)< (a.l.length:Int):=by omega
      have EK:Hid (a.l.length=0):=O (by omega);go_wp2_with fail;refine(P_.o _ (z8 _ _)).mono ?_;rintro r w5 ⟨t5,(⟨e1,rfl⟩ | ⟨-,e2,e3,rfl⟩ | ⟨-,e2,e3,k,e4,rfl⟩)⟩
      ·have K8:=O (V3.o.Y t5);have T4:Hid (¬o4 p xs a):=O (fun e=>by have h:=(HR.o.1 e).2.2.1.1;rw[Y7.o.1,h]at e1;cases e1);clear t5 e1 q0 q1 q2 q3 a0 a1 a2 a3 a4;go_wp2_with fail;go_ret2;exact X1.no Y7.o K8.o T4.o
      ·have K8:=O (V3.o.Y t5);have T4:Hid (¬o4 p xs a):=O (fun e=>by have h:=(HR.o.1 e).2.2.1.2.1;rw[h]at e3;cases e3);clear t5 e2 e3 q0 q1 q2 q3 a0 a1 a2 a3 a4;go_wp2_with fail;go_ret2;exact X1.no Y7.o K8.o T4.o
      ·have K8:=O (V3.o.Y t5);have Tj:=O t5;by_cases I1:k<a.ls.length
       ·have T4:Hid (¬o4 p xs a):=O (fun e=>by have h:=(HR.o.1 e).2.2.1.2.2;have:=h.unique e4;omega);rw[x9 I1];clear t5 e2 e3 e4 q0 q1 q2 q3 a0 a1 a2 a3 a4;go_wp2_with fail;go_ret2;exact X1.no Y7.o K8.o T4.o
       ·have Bb:Hid (rZ p a.ys a.ls):=O ⟨e2,e3,by
         have h1:=e4.le;obtain rfl:k=a.ls.length:=by omega
         exact e4⟩
        rw[z9 I1];have xP:=O (HSY.o (Fp e2));have EM:=O (R5 (Fp e2));clear t5 e2 e3 e4 q0 q1 q2 q3 a0 a1 a2 a3 a4;obtain⟨a0,a1,a2,a3,a4⟩:=DG.o w5 Tj.o;have hz:=jV;go_wp2_with fail;refine(M_.o _ K8.o).mono ?_;rintro r w6 ⟨rfl,t6⟩;have WE:=m8 mc.o;have Vs:=V7 (D9 xs);have XG:=O (Ca EM.o);have uz:=O (fun(W:World)=>Ok (D9 a.ys) (D9 xs) XG.o mc.o W);have WD:=m8 XG.o;have hoy:=V7 (D9 a.ys)
        have XI:Hid (Ta (D9 a.ys) (D9 xs)=true↔ ∀y∈a.ys,y∈xs):=O (by
         rw[Ju];constructor
         ·intro h y hy;have h2:=h y (by rw[Y4 EM.o];simpa using hy);rw[Y4 xR.o]at h2;simpa using h2
         ·intro h n hn;rw[Y4 EM.o]at hn;rw[Y4 xR.o]
          simpa using h n (by simpa using hn))
        unfold T5 at xP uz⊢;generalize ((D9 xs).map y6).toArray=csx at*;generalize ((D9 a.ys).map y6).toArray=csy at*;go_upto_region 15 with(first | (refine D0 (j4.new _ _ _) (m8 L5) WE Vs ?_;intro w7 b7 t7))
        have EF:=((z8 [] w6).alloc (.cells ((l8.map y6).toArray) 69)).step t7 (fun m hm=> .inr (by rw[y7]at hm;omega));have xN:=O (K8.o.Y (t6.Y EF));have FZ:=O (Tj.o.Y (t6.Y EF));have hO:=O b7;obtain⟨gx,Mi⟩: ∃gx,gx=w6.heap.size:=⟨_,rfl⟩;rw[←Mi]at hO⊢;clear a0 a1 a2 a3 a4 t6 t7 b7 EF Mi;obtain⟨a0,a1,a2,a3,a4⟩:=DG.o w7 FZ.o;go_wp2_with fail;refine(xP.o _ xN.o).mono ?_;rintro r w8 ⟨rfl,t8⟩;go_upto_region 16 with(first | (refine D0 (j4.new _ _ _) (m8 L5) WD hoy ?_;intro w9 b9 t9))
        have EE:=((z8 [] w8).alloc (.cells ((l8.map y6).toArray) 69)).step t9 (fun m hm=> .inr (by rw[y7]at hm;omega));have Bq:=O (xN.o.Y (t8.Y EE));have Kw:=O b9;have J_:=O (hO.o.z7 (t8.Y EE) (by simp));obtain⟨gy,WN⟩: ∃gy,gy=w8.heap.size:=⟨_,rfl⟩;rw[←WN]at Kw⊢;clear a0 a1 a2 a3 a4 t8 t9 b9 EE WN hz;go_wp2_with (first | (refine U5 Kw.o WD ?_) | (refine U5 J_.o WE ?_));refine(uz.o _).mono ?_;rintro r ZO ⟨rfl,t10⟩;have sB:=O (Bq.o.Y t10);clear t10
        cases Sw:Ta (D9 a.ys) (D9 xs)with
        | true=>
         have gZ:=O (HR.o.2 ⟨Q9.o,EK.o,Bb.o,XI.o.1 Sw⟩);clear Sw;go_wp2_with fail;go_ret2;exact X1.yes Y7.o sB.o gZ.o
        | false=>
         have T4:Hid (¬o4 p xs a):=O (fun e=>by have:=XI.o.2 (HR.o.1 e).2.2.2;rw[Sw]at this;cases this);clear Sw;go_wp2_with fail;go_ret2;exact X1.no Y7.o sB.o T4.o
    have U3:(a.k==2)=false:=by simpa using V9
    by_cases Em:a.k=0
    ·have jM:(a.k==0)=true:=by simpa using Em
     have HR:=O (Pt (p:=p) (xs:=xs) Em);go_wp2_with fail;go_ret2;exact X1.no Y7.o V3.o (fun e=>bH.o (HR.o.1 e).2.1)
    have jM:(a.k==0)=false:=by simpa using Em
    go_wp2_with fail;go_ret2;exact X1.no Y7.o V3.o (Fz Em Ku V9)
end Go.Proofs.YtlhlmcohdkkjpaaGreatDoor
