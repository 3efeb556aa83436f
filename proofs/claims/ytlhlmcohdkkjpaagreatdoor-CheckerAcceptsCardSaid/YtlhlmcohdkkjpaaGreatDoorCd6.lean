/- The document: Right of layer 25, given the contract of layer 17's Valid. -/
import Derived.Test.YtlhlmcohdkkjpaaGreatDoorCd5
import Derived.Test.YtlhlmcohdkkjpaaGreatDoorCc37
set_option linter.all false
set_option maxHeartbeats 32000000
set_option maxRecDepth 100000
namespace Go.Proofs.YtlhlmcohdkkjpaaGreatDoor
open Go.RowKit
def o9 (p:Px)(xs:List Int)(a:ES)(w:World)(r:Ending)(w':World):Prop:=z6 [] w w'∧ ∃b:Bool,r= .returned (.bool b)∧(b=true↔(J5 p=true∧Fa xs=true∧W0 p xs=true)∧o4 p xs a)
variable{a:ES}{xs:List Int}{p:Px}{w w':World}
theorem o9.yes (h:J5 p=true∧Fa xs=true∧W0 p xs=true)(t:z6 [] w w')(hr:o4 p xs a):o9 p xs a w (.returned (.bool true)) w':=⟨t,true,rfl,fun _=>⟨h,hr⟩,fun _=>rfl⟩
theorem o9.no (t:z6 [] w w')(hr: ¬o4 p xs a):o9 p xs a w (.returned (.bool false)) w':=⟨t,false,rfl,fun e=>(by cases e),fun e=>absurd e.2 hr⟩
theorem o9.dj (t:z6 [] w w')(hr: ¬(J5 p=true∧Fa xs=true∧W0 p xs=true)):o9 p xs a w (.returned (.bool false)) w':=⟨t,false,rfl,fun e=>(by cases e),fun e=>absurd e.1 hr⟩
theorem Pv {ys:List Int}:ys.all (fun n=>xs.contains n)=true↔ ∀y∈ys,y∈xs:=by
 rw[Z6];exact⟨fun h y hy=>by simpa using h y hy,fun h y hy=>by simpa using h y hy⟩
theorem lh (hv:RV)(p:Px)(VD VP VL VC VS VA VY VM:Value)(xs:List Int)(a:ES)(w:World)(h:K3 w VD VP VL VC p)(hl:P0 p)(hS:e8 w VS xs)(Ks:xs.length≤100000)(hA:yQ w VA VY VM a)(wW:GO a):Calls Tryz.prog 11 #[.agg #[VD,VP,VL,VC],VS,.agg #[.int .i64 a.k,VA,VY,VM,.int .i64 a.st]] w (o9 p xs a w):=by
 have rG:=p7 (fun W t=>Rg hv p VD VP VL VC VS xs W (h.q8 t) hl (hS.q8 t) Ks);have qr2:=O (fun(e:J5 p=true) (W:World) (vD vP vL vC:Value) (hq:K3 W vD vP vL vC (c_ p xs)) (t:z6 [] w W)=>MV (c_ p xs) vD vP vL vC VA a.l W hq (hA.l.q8 t) (Dv hl xs) wW.l (Cj e xs));have GF:=p7 (fun W t=>gD p VD VP VL VC VY VM a.ys a.ls W hv (h.q8 t) hl (hA.y.q8 t) (hA.m.q8 t) wW.y wW.m wW.g);have xB:=p7 (fun W t=>fE VY VS a.ys xs W (hA.y.q8 t) (hS.q8 t) wW.y);obtain⟨AD,cD,rfl,-,-⟩:=h.d.form;obtain⟨AP,cP,rfl⟩:=h.pr.form;obtain⟨AL,cL,rfl⟩:=h.ld.form;obtain⟨AC,cC,rfl⟩:=h.cp.form;obtain⟨AS,cS,rfl⟩:=hS.form;obtain⟨AA,cA,rfl⟩:=hA.l.form;obtain⟨AY,cY,rfl⟩:=hA.y.form;obtain⟨AM,cM,rfl⟩:=hA.m.form;have b0:=j4.new w 29 #[.slice AD p.D.length cD,.slice AP p.R.P.length cP,.slice AL p.R.L.length cL,.slice AC p.R.C.length cC];have t0:=((z8 [] w).alloc (.cells #[.slice AD p.D.length cD,.slice AP p.R.P.length cP,.slice AL p.R.L.length cL,.slice AC p.R.C.length cC] 29)).alloc (.cells #[.int .i64 a.k,.slice AA a.l.length cA,.slice AY a.ys.length cY,.slice AM a.ls.length cM,.int .i64 a.st] 37);have b1:=j4.new (w.alloc (.cells #[.slice AD p.D.length cD,.slice AP p.R.P.length cP,.slice AL p.R.L.length cL,.slice AC p.R.C.length cC] 29)) 37 #[.int .i64 a.k,.slice AA a.l.length cA,.slice AY a.ys.length cY,.slice AM a.ls.length cM,.int .i64 a.st];have b2:=b0.alloc (.cells #[.int .i64 a.k,.slice AA a.l.length cA,.slice AY a.ys.length cY,.slice AM a.ls.length cM,.int .i64 a.st] 37);simp only[World.size_alloc]at b1;have HC:Hid (∀W',z6 [] ((w.alloc (.cells #[.slice AD p.D.length cD,.slice AP p.R.P.length cP,.slice AL p.R.L.length cL,.slice AC p.R.C.length cC] 29)).alloc (.cells #[.int .i64 a.k,.slice AA a.l.length cA,.slice AY a.ys.length cY,.slice AM a.ls.length cM,.int .i64 a.st] 37)) W'→(W'.cell? ⟨w.heap.size,0,none⟩=some (.slice AD p.D.length cD)∧W'.cell? ⟨w.heap.size,1,none⟩=some (.slice AP p.R.P.length cP)∧W'.cell? ⟨w.heap.size,2,none⟩=some (.slice AL p.R.L.length cL)∧W'.cell? ⟨w.heap.size,3,none⟩=some (.slice AC p.R.C.length cC))∧W'.cell? ⟨w.heap.size+1,0,none⟩=some (.int .i64 a.k)∧W'.cell? ⟨w.heap.size+1,1,none⟩=some (.slice AA a.l.length cA)∧W'.cell? ⟨w.heap.size+1,2,none⟩=some (.slice AY a.ys.length cY)∧W'.cell? ⟨w.heap.size+1,3,none⟩=some (.slice AM a.ls.length cM)∧W'.cell? ⟨w.heap.size+1,4,none⟩=some (.int .i64 a.st)):=O (fun W' t=>⟨⟨((b2.z7 t (by simp)).cell 0).trans rfl,((b2.z7 t (by simp)).cell 1).trans rfl,((b2.z7 t (by simp)).cell 2).trans rfl,((b2.z7 t (by simp)).cell 3).trans rfl⟩,((b1.z7 t (by simp)).cell 0).trans rfl,((b1.z7 t (by simp)).cell 1).trans rfl,((b1.z7 t (by simp)).cell 2).trans rfl,((b1.z7 t (by simp)).cell 3).trans rfl,((b1.z7 t (by simp)).cell 4).trans rfl⟩);have m9:=O t0;clear h hl b0 b1 b2 t0 hS Ks hA wW;go_enter Tryz.func11,Tryz.ntmps11;go_upto_region 1 with fail
 generalize (w.alloc _).alloc _=wa at HC m9⊢;obtain⟨⟨c0,c1,c2,c3⟩,-⟩:=HC.o _ (z8 [] _);go_wp2_with fail;refine(rG.o _ m9.o).mono ?_;rintro r w2 ⟨t2,(⟨e1,rfl⟩ | ⟨e1,e2,e3,rfl⟩ | ⟨e1,e2,e3,vD,vP,vL,vC,rfl,hq⟩)⟩
 ·have T4:Hid (¬(J5 p=true∧Fa xs=true∧W0 p xs=true)):=O (fun e=>by rw[e.1,e.2.1]at e1;cases e1);have TA:=(z8 [] w2).alloc (.cells #[.slice none 0 0,.slice none 0 0,.slice none 0 0,.slice none 0 0] 29);have V3:=O (m9.o.Y (t2.Y TA));unfold Q3;clear c0 c1 c2 c3 e1;go_upto_region 2 with fail
  generalize w2.alloc _=w3 at TA V3⊢;obtain⟨-,a0,a1,a2,a3,a4⟩:=HC.o w3 (t2.Y TA);clear TA t2;by_cases Rj:a.ys.length=0
  ·have ZZ:((a.ys.length:Int)==0)=true:=by simpa using Rj
   by_cases Fe:a.ls.length=0
   ·have mq:((a.ls.length:Int)==0)=true:=by simpa using Fe
    have bH:=O (And.intro Rj Fe);clear Rj Fe;go_wp2_with fail;go_ret;exact o9.dj V3.o T4.o
   ·have mq:((a.ls.length:Int)==0)=false:=by simpa using Fe
    have bH:Hid (¬(a.ys.length=0∧a.ls.length=0)):=O (fun e=>Fe e.2);clear Rj Fe;go_wp2_with fail;go_ret;exact o9.dj V3.o T4.o
  ·have ZZ:((a.ys.length:Int)==0)=false:=by simpa using Rj
   have bH:Hid (¬(a.ys.length=0∧a.ls.length=0)):=O (fun e=>Rj e.1);clear Rj;go_wp2_with fail;go_ret;exact o9.dj V3.o T4.o
 ·have T4:Hid (¬(J5 p=true∧Fa xs=true∧W0 p xs=true)):=O (fun e=>by rw[e.2.2]at e3;cases e3);have TA:=(z8 [] w2).alloc (.cells #[.slice none 0 0,.slice none 0 0,.slice none 0 0,.slice none 0 0] 29);have V3:=O (m9.o.Y (t2.Y TA));unfold Q3;clear c0 c1 c2 c3 e1 e2 e3;go_upto_region 2 with fail
  generalize w2.alloc _=w3 at TA V3⊢;obtain⟨-,a0,a1,a2,a3,a4⟩:=HC.o w3 (t2.Y TA);clear TA t2;by_cases Rj:a.ys.length=0
  ·have ZZ:((a.ys.length:Int)==0)=true:=by simpa using Rj
   by_cases Fe:a.ls.length=0
   ·have mq:((a.ls.length:Int)==0)=true:=by simpa using Fe
    have bH:=O (And.intro Rj Fe);clear Rj Fe;go_wp2_with fail;go_ret;exact o9.dj V3.o T4.o
   ·have mq:((a.ls.length:Int)==0)=false:=by simpa using Fe
    have bH:Hid (¬(a.ys.length=0∧a.ls.length=0)):=O (fun e=>Fe e.2);clear Rj Fe;go_wp2_with fail;go_ret;exact o9.dj V3.o T4.o
  ·have ZZ:((a.ys.length:Int)==0)=false:=by simpa using Rj
   have bH:Hid (¬(a.ys.length=0∧a.ls.length=0)):=O (fun e=>Rj e.1);clear Rj;go_wp2_with fail;go_ret;exact o9.dj V3.o T4.o
 ·have Y7:=O (And.intro e1 (And.intro e2 e3));obtain⟨A1,k1,rfl,-,-⟩:=hq.d.form;obtain⟨A2,k2,rfl⟩:=hq.pr.form;obtain⟨A3,k3,rfl⟩:=hq.ld.form;obtain⟨A4,k4,rfl⟩:=hq.cp.form;have TA:=(z8 [] w2).alloc (.cells #[.slice A1 (c_ p xs).D.length k1,.slice A2 (c_ p xs).R.P.length k2,.slice A3 (c_ p xs).R.L.length k3,.slice A4 (c_ p xs).R.C.length k4] 29);have BX:=j4.new w2 29 #[.slice A1 (c_ p xs).D.length k1,.slice A2 (c_ p xs).R.P.length k2,.slice A3 (c_ p xs).R.L.length k3,.slice A4 (c_ p xs).R.C.length k4];have V3:=O (m9.o.Y (t2.Y TA));have EI:=O (hq.q8 TA);have Q8:=O (t2.Y TA);clear c0 c1 c2 c3 rG hq e1 e2 e3;go_upto_region 2 with fail
  generalize w2.alloc _=w3 at BX TA V3 EI Q8⊢;obtain⟨gq,jL⟩: ∃gq,gq=w2.heap.size:=⟨_,rfl⟩;rw[←jL]at BX⊢;clear jL TA t2;obtain⟨q0,q1,q2,q3⟩:=BX.F2;obtain⟨⟨c0,c1,c2,c3⟩,a0,a1,a2,a3,a4⟩:=HC.o w3 Q8.o;have DG:=p7 (fun W t=>(HC.o W (Q8.o.Y t)).2);have EO:=p7 (fun W t=>qr2.o Y7.o.1 W _ _ _ _ (EI.o.q8 t) (V3.o.Y t));have P_:=p7 (fun W t=>GF.o W (V3.o.Y t));clear BX HC qr2 GF EI;by_cases Rj:a.ys.length=0
  ·have ZZ:((a.ys.length:Int)==0)=true:=by simpa using Rj
   by_cases Fe:a.ls.length=0
   ·have mq:((a.ls.length:Int)==0)=true:=by simpa using Fe
    have bH:=O (And.intro Rj Fe);clear Rj Fe;by_cases Z7:a.st<0
    ·go_wp2_with fail;go_ret;exact o9.no V3.o (fun e=>by have:=e.1;omega)
    have Q9:Hid (0≤a.st):=O (by omega);by_cases Ku:a.k=1
    ·have Qj:(a.k==1)=true:=by simpa using Ku
     have HR:=O (Ps (p:=p) (xs:=xs) Ku);go_wp2_with fail;refine(EO.o _ (z8 _ _)).mono ?_;rintro r w5 ⟨rfl,t5⟩;have K8:=O (V3.o.Y t5);clear t5 q0 q1 q2 q3 a0 a1 a2 a3 a4
     cases hc:(Iw a.l&&B5 (c_ p xs) a.l)with
     | false=>
      have T4:Hid (¬o4 p xs a):=O (fun e=>by have h:=(HR.o.1 e).2.2;rw[h.1,h.2]at hc;cases hc);clear hc;go_wp2_with fail;go_ret;exact o9.no K8.o T4.o
     | true=>
      have gZ:Hid (o4 p xs a):=O (HR.o.2 ⟨Q9.o,bH.o,(p9 _ _).mp hc⟩);clear hc;go_wp2_with fail;go_ret;exact o9.yes Y7.o K8.o gZ.o
    have Qj:(a.k==1)=false:=by simpa using Ku
    by_cases V9:a.k=2
    ·have U3:(a.k==2)=true:=by simpa using V9
     have HR:=O (Pr (p:=p) (xs:=xs) V9);by_cases Hk:a.l.length=0;rotate_left
     ·have Rq:((a.l.length:Int)==0)=false:=by simpa using Hk
      have T4:Hid (¬o4 p xs a):=O (fun e=>Hk (HR.o.1 e).2.1);go_wp2_with fail;go_ret;exact o9.no V3.o T4.o
     ·have Rq:((a.l.length:Int)==0)=true:=by simpa using Hk
      have EK:=O Hk;go_wp2_with fail;refine(P_.o _ (z8 _ _)).mono ?_;rintro r w5 ⟨t5,(⟨e1,rfl⟩ | ⟨-,e2,e3,rfl⟩ | ⟨-,e2,e3,k,e4,rfl⟩)⟩
      ·have K8:=O (V3.o.Y t5);have T4:Hid (¬o4 p xs a):=O (fun e=>by have h:=(HR.o.1 e).2.2.1.1;rw[Y7.o.1,h]at e1;cases e1);clear t5 e1 q0 q1 q2 q3 a0 a1 a2 a3 a4;go_wp2_with fail;go_ret;exact o9.no K8.o T4.o
      ·have K8:=O (V3.o.Y t5);have T4:Hid (¬o4 p xs a):=O (fun e=>by have h:=(HR.o.1 e).2.2.1.2.1;rw[h]at e3;cases e3);clear t5 e2 e3 q0 q1 q2 q3 a0 a1 a2 a3 a4;go_wp2_with fail;go_ret;exact o9.no K8.o T4.o
      ·have K8:=O (V3.o.Y t5);have Tj:=O t5;by_cases I1:k<a.ls.length
       ·have T4:Hid (¬o4 p xs a):=O (fun e=>by have h:=(HR.o.1 e).2.2.1.2.2;have:=h.unique e4;omega);rw[x9 I1];clear t5 e2 e3 e4 q0 q1 q2 q3 a0 a1 a2 a3 a4;go_wp2_with fail;go_ret;exact o9.no K8.o T4.o
       ·have Bb:Hid (rZ p a.ys a.ls):=O ⟨e2,e3,by
         have h1:=e4.le;obtain rfl:k=a.ls.length:=by omega
         exact e4⟩
        rw[z9 I1];clear t5 e2 e3 e4 q0 q1 q2 q3 a0 a1 a2 a3 a4;obtain⟨a0,a1,a2,a3,a4⟩:=DG.o w5 Tj.o;go_wp2_with fail;refine(xB.o _ K8.o).mono ?_;rintro r w6 ⟨rfl,t6⟩;have Vl:=O (K8.o.Y t6);clear a0 a1 a2 a3 a4 t6
        cases Sw:a.ys.all (fun n=>xs.contains n)with
        | true=>
         have gZ:Hid (o4 p xs a):=O (HR.o.2 ⟨Q9.o,EK.o,Bb.o,Pv.1 Sw⟩);clear Sw;go_wp2_with fail;go_ret;exact o9.yes Y7.o Vl.o gZ.o
        | false=>
         have T4:Hid (¬o4 p xs a):=O (fun e=>by have:=Pv.2 (HR.o.1 e).2.2.2;rw[Sw]at this;cases this);clear Sw;go_wp2_with fail;go_ret;exact o9.no Vl.o T4.o
    have U3:(a.k==2)=false:=by simpa using V9
    by_cases Em:a.k=0
    ·have jM:(a.k==0)=true:=by simpa using Em
     have HR:=O (Pt (p:=p) (xs:=xs) Em);by_cases Hk:a.l.length=0
     ·have Rq:((a.l.length:Int)==0)=true:=by simpa using Hk
      go_wp2_with fail;go_ret;exact o9.yes Y7.o V3.o (HR.o.2 ⟨Q9.o,bH.o,Hk⟩)
     ·have Rq:((a.l.length:Int)==0)=false:=by simpa using Hk
      go_wp2_with fail;go_ret;exact o9.no V3.o (fun e=>Hk (HR.o.1 e).2.2)
    have jM:(a.k==0)=false:=by simpa using Em
    go_wp2_with fail;go_ret;exact o9.no V3.o (Fz Em Ku V9)
   ·have mq:((a.ls.length:Int)==0)=false:=by simpa using Fe
    have bH:Hid (¬(a.ys.length=0∧a.ls.length=0)):=O (fun e=>Fe e.2);clear Rj Fe;by_cases Z7:a.st<0
    ·go_wp2_with fail;go_ret;exact o9.no V3.o (fun e=>by have:=e.1;omega)
    have Q9:Hid (0≤a.st):=O (by omega);by_cases Ku:a.k=1
    ·have Qj:(a.k==1)=true:=by simpa using Ku
     have HR:=O (Ps (p:=p) (xs:=xs) Ku);go_wp2_with fail;go_ret;exact o9.no V3.o (fun e=>bH.o (HR.o.1 e).2.1)
    have Qj:(a.k==1)=false:=by simpa using Ku
    by_cases V9:a.k=2
    ·have U3:(a.k==2)=true:=by simpa using V9
     have HR:=O (Pr (p:=p) (xs:=xs) V9);by_cases Hk:a.l.length=0;rotate_left
     ·have Rq:((a.l.length:Int)==0)=false:=by simpa using Hk
      have T4:Hid (¬o4 p xs a):=O (fun e=>Hk (HR.o.1 e).2.1);go_wp2_with fail;go_ret;exact o9.no V3.o T4.o
     ·have Rq:((a.l.length:Int)==0)=true:=by simpa using Hk
      have EK:=O Hk;go_wp2_with fail;refine(P_.o _ (z8 _ _)).mono ?_;rintro r w5 ⟨t5,(⟨e1,rfl⟩ | ⟨-,e2,e3,rfl⟩ | ⟨-,e2,e3,k,e4,rfl⟩)⟩
      ·have K8:=O (V3.o.Y t5);have T4:Hid (¬o4 p xs a):=O (fun e=>by have h:=(HR.o.1 e).2.2.1.1;rw[Y7.o.1,h]at e1;cases e1);clear t5 e1 q0 q1 q2 q3 a0 a1 a2 a3 a4;go_wp2_with fail;go_ret;exact o9.no K8.o T4.o
      ·have K8:=O (V3.o.Y t5);have T4:Hid (¬o4 p xs a):=O (fun e=>by have h:=(HR.o.1 e).2.2.1.2.1;rw[h]at e3;cases e3);clear t5 e2 e3 q0 q1 q2 q3 a0 a1 a2 a3 a4;go_wp2_with fail;go_ret;exact o9.no K8.o T4.o
      ·have K8:=O (V3.o.Y t5);have Tj:=O t5;by_cases I1:k<a.ls.length
       ·have T4:Hid (¬o4 p xs a):=O (fun e=>by have h:=(HR.o.1 e).2.2.1.2.2;have:=h.unique e4;omega);rw[x9 I1];clear t5 e2 e3 e4 q0 q1 q2 q3 a0 a1 a2 a3 a4;go_wp2_with fail;go_ret;exact o9.no K8.o T4.o
       ·have Bb:Hid (rZ p a.ys a.ls):=O ⟨e2,e3,by
         have h1:=e4.le;obtain rfl:k=a.ls.length:=by omega
         exact e4⟩
        rw[z9 I1];clear t5 e2 e3 e4 q0 q1 q2 q3 a0 a1 a2 a3 a4;obtain⟨a0,a1,a2,a3,a4⟩:=DG.o w5 Tj.o;go_wp2_with fail;refine(xB.o _ K8.o).mono ?_;rintro r w6 ⟨rfl,t6⟩;have Vl:=O (K8.o.Y t6);clear a0 a1 a2 a3 a4 t6
        cases Sw:a.ys.all (fun n=>xs.contains n)with
        | true=>
         have gZ:Hid (o4 p xs a):=O (HR.o.2 ⟨Q9.o,EK.o,Bb.o,Pv.1 Sw⟩);clear Sw;go_wp2_with fail;go_ret;exact o9.yes Y7.o Vl.o gZ.o
        | false=>
         have T4:Hid (¬o4 p xs a):=O (fun e=>by have:=Pv.2 (HR.o.1 e).2.2.2;rw[Sw]at this;cases this);clear Sw;go_wp2_with fail;go_ret;exact o9.no Vl.o T4.o
    have U3:(a.k==2)=false:=by simpa using V9
    by_cases Em:a.k=0
    ·have jM:(a.k==0)=true:=by simpa using Em
     have HR:=O (Pt (p:=p) (xs:=xs) Em);go_wp2_with fail;go_ret;exact o9.no V3.o (fun e=>bH.o (HR.o.1 e).2.1)
    have jM:(a.k==0)=false:=by simpa using Em
    go_wp2_with fail;go_ret;exact o9.no V3.o (Fz Em Ku V9)
  ·have ZZ:((a.ys.length:Int)==0)=false:=by simpa using Rj
   have bH:Hid (¬(a.ys.length=0∧a.ls.length=0)):=O (fun e=>Rj e.1);clear Rj;by_cases Z7:a.st<0
   ·go_wp2_with fail;go_ret;exact o9.no V3.o (fun e=>by have:=e.1;omega)
   have Q9:Hid (0≤a.st):=O (by omega);by_cases Ku:a.k=1
   ·have Qj:(a.k==1)=true:=by simpa using Ku
    have HR:=O (Ps (p:=p) (xs:=xs) Ku);go_wp2_with fail;go_ret;exact o9.no V3.o (fun e=>bH.o (HR.o.1 e).2.1)
   have Qj:(a.k==1)=false:=by simpa using Ku
   by_cases V9:a.k=2
   ·have U3:(a.k==2)=true:=by simpa using V9
    have HR:=O (Pr (p:=p) (xs:=xs) V9);by_cases Hk:a.l.length=0;rotate_left
    ·have Rq:((a.l.length:Int)==0)=false:=by simpa using Hk
     have T4:Hid (¬o4 p xs a):=O (fun e=>Hk (HR.o.1 e).2.1);go_wp2_with fail;go_ret;exact o9.no V3.o T4.o
    ·have Rq:((a.l.length:Int)==0)=true:=by simpa using Hk
     have EK:=O Hk;go_wp2_with fail;refine(P_.o _ (z8 _ _)).mono ?_;rintro r w5 ⟨t5,(⟨e1,rfl⟩ | ⟨-,e2,e3,rfl⟩ | ⟨-,e2,e3,k,e4,rfl⟩)⟩
     ·have K8:=O (V3.o.Y t5);have T4:Hid (¬o4 p xs a):=O (fun e=>by have h:=(HR.o.1 e).2.2.1.1;rw[Y7.o.1,h]at e1;cases e1);clear t5 e1 q0 q1 q2 q3 a0 a1 a2 a3 a4;go_wp2_with fail;go_ret;exact o9.no K8.o T4.o
     ·have K8:=O (V3.o.Y t5);have T4:Hid (¬o4 p xs a):=O (fun e=>by have h:=(HR.o.1 e).2.2.1.2.1;rw[h]at e3;cases e3);clear t5 e2 e3 q0 q1 q2 q3 a0 a1 a2 a3 a4;go_wp2_with fail;go_ret;exact o9.no K8.o T4.o
     ·have K8:=O (V3.o.Y t5);have Tj:=O t5;by_cases I1:k<a.ls.length
      ·have T4:Hid (¬o4 p xs a):=O (fun e=>by have h:=(HR.o.1 e).2.2.1.2.2;have:=h.unique e4;omega);rw[x9 I1];clear t5 e2 e3 e4 q0 q1 q2 q3 a0 a1 a2 a3 a4;go_wp2_with fail;go_ret;exact o9.no K8.o T4.o
      ·have Bb:Hid (rZ p a.ys a.ls):=O ⟨e2,e3,by
        have h1:=e4.le;obtain rfl:k=a.ls.length:=by omega
        exact e4⟩
       rw[z9 I1];clear t5 e2 e3 e4 q0 q1 q2 q3 a0 a1 a2 a3 a4;obtain⟨a0,a1,a2,a3,a4⟩:=DG.o w5 Tj.o;go_wp2_with fail;refine(xB.o _ K8.o).mono ?_;rintro r w6 ⟨rfl,t6⟩;have Vl:=O (K8.o.Y t6);clear a0 a1 a2 a3 a4 t6
       cases Sw:a.ys.all (fun n=>xs.contains n)with
       | true=>
        have gZ:Hid (o4 p xs a):=O (HR.o.2 ⟨Q9.o,EK.o,Bb.o,Pv.1 Sw⟩);clear Sw;go_wp2_with fail;go_ret;exact o9.yes Y7.o Vl.o gZ.o
       | false=>
        have T4:Hid (¬o4 p xs a):=O (fun e=>by have:=Pv.2 (HR.o.1 e).2.2.2;rw[Sw]at this;cases this);clear Sw;go_wp2_with fail;go_ret;exact o9.no Vl.o T4.o
   have U3:(a.k==2)=false:=by simpa using V9
   by_cases Em:a.k=0
   ·have jM:(a.k==0)=true:=by simpa using Em
    have HR:=O (Pt (p:=p) (xs:=xs) Em);go_wp2_with fail;go_ret;exact o9.no V3.o (fun e=>bH.o (HR.o.1 e).2.1)
   have jM:(a.k==0)=false:=by simpa using Em
   go_wp2_with fail;go_ret;exact o9.no V3.o (Fz Em Ku V9)
end Go.Proofs.YtlhlmcohdkkjpaaGreatDoor
