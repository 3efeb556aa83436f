/- Layer 17, the document: Valid. -/
import Derived.Test.YtlhlmcohdkkjpaaGreatDoorZM
set_option linter.all false
set_option maxHeartbeats 32000000
set_option maxRecDepth 100000
namespace Go.Proofs.YtlhlmcohdkkjpaaGreatDoor
open Go.RowKit
theorem lq (p:Px)(VD VP VL VC:Value)(w:World)(h:K3 w VD VP VL VC p)(hl:P0 p)(hVR: ∀W,z6 [] w W→Calls Tryz.prog 24 #[.agg #[VP,VL,VC]] W fun r w'=>r= .returned (.bool (V1 p.R))∧z6 [] W w'):Calls Tryz.prog 7 #[.agg #[VD,VP,VL,VC]] w fun r w'=>r= .returned (.bool (J5 p))∧z6 [] w w':=by
 have Zo:Hid (¬p.D.length≤512→J5 p=false):=O (fun e=>by
  cases e2:J5 p with
  | false=>rfl
  | true=>exact absurd (aJ e2) e)
 have HRU:Hid (V1 p.R=false→J5 p=false):=O (fun e=>by unfold J5;rw[e];simp);have HBG:Hid (∀(k:Nat) (hk:k<p.D.length),K4 p.D[k]=false→J5 p=false):=O (fun k hk e=>by unfold J5;rw[B7 hk e];rfl)
 have HBI:Hid (∀(k:Nat) (hk:k+1<p.D.length),¬p.D[k].st<p.D[k+1].st→J5 p=false):=O (fun k hk e=>by
  have:N8 R9 p.D=false:=Dl (fun hi=>e (uX.1 (hi k _ _ (j6 (by omega)) (j6 hk))))
  unfold J5;rw[this];simp)
 have jT:Hid (p.R.P.all (fun x=>y8 p x.a&&y8 p x.b)=false→J5 p=false):=O (fun e=>by unfold J5;rw[e];simp);have EQ:Hid (p.R.L.all (fun x=>y8 p x.a&&y8 p x.b)=false→J5 p=false):=O (fun e=>by unfold J5;rw[e];simp);have HBC:Hid (p.R.C.all (fun x=>y8 p x.a)=false→J5 p=false):=O (fun e=>by unfold J5;rw[e];simp)
 have Y7:Hid (V1 p.R=true→vr p.D p.D.length→p.R.P.all (fun x=>y8 p x.a&&y8 p x.b)=true→p.R.L.all (fun x=>y8 p x.a&&y8 p x.b)=true→p.R.C.all (fun x=>y8 p x.a)=true→J5 p=true):=O (fun e1 e2 e3 e4 e5=>by
  unfold J5
  have h1:p.D.all K4=true:=Z6.2 (fun x hx=>by
   obtain⟨j,hj⟩:=Gk hx
   exact e2.1 j x (U4.1 hj).1 hj)
  have h2:N8 R9 p.D=true:=D3.2 (fun j x y hx hy=>uX.2 (e2.2 j x y (U4.1 hy).1 hx hy));rw[e1,e3,e4,e5,h1,h2]
  rfl)
 have aB:=O (fun(W:World) (t:z6 [] w W) (n:Int)=>Py VD VP VL VC p.D n W (h.d.q8 t));have HVR:=O hVR;have hlP:=hl.pr;have hlL:=hl.ld;have hlC:=hl.cp;have hlD:=hl.d;have HLC:=O hl.ch;generalize J5 p=n9 at*;clear hVR hl;obtain⟨AD,cD,rfl,-,-⟩:=h.d.form;obtain⟨AP,cP,rfl⟩:=h.pr.form;obtain⟨AL,cL,rfl⟩:=h.ld.form;obtain⟨AC,cC,rfl⟩:=h.cp.form;have Bb:=p7 (fun W t=>h.q8 t);have b0:=j4.new w 29 #[.slice AD p.D.length cD,.slice AP p.R.P.length cP,.slice AL p.R.L.length cL,.slice AC p.R.C.length cC];have o6:z6 [] w (w.alloc (.cells #[.slice AD p.D.length cD,.slice AP p.R.P.length cP,.slice AL p.R.L.length cL,.slice AC p.R.C.length cC] 29)):=(z8 [] w).alloc _;have HK:Hid (∀W',z6 [] (w.alloc (.cells #[.slice AD p.D.length cD,.slice AP p.R.P.length cP,.slice AL p.R.L.length cL,.slice AC p.R.C.length cC] 29)) W'→W'.cell? ⟨w.heap.size,0,none⟩=some (.slice AD p.D.length cD)∧W'.cell? ⟨w.heap.size,1,none⟩=some (.slice AP p.R.P.length cP)∧W'.cell? ⟨w.heap.size,2,none⟩=some (.slice AL p.R.L.length cL)∧W'.cell? ⟨w.heap.size,3,none⟩=some (.slice AC p.R.C.length cC)):=O (fun W' t=>(b0.z7 t (by simp)).F2);have m9:=O o6;clear b0 o6 h;by_cases FJ:p.D.length≤512;rotate_left
 ·have y5:=O (Zo.o FJ);have d1:decide ((512:Int)< (p.D.length:Int))=true:=b_ (by omega);clear FJ;go_enter Tryz.func7,Tryz.ntmps7;go_wp2_with fail;go_ret;exact⟨v9 (by rw[y5.o]),m9.o⟩
 have d1:decide ((512:Int)< (p.D.length:Int))=false:=v8 (by omega);have HVW:=O (HVR.o _ m9.o);clear HVR FJ
 cases hru:V1 p.R with
 | false=>
  have y5:=O (HRU.o hru);rw[hru]at HVW;clear hru;go_enter Tryz.func7,Tryz.ntmps7;go_wp2_with fail;obtain⟨r0,r1,r2,r3⟩:=HK.o _ (z8 _ _);go_wp2_with fail;refine HVW.o.mono ?_;rintro r w1 ⟨rfl,t1⟩;go_wp2_with fail;go_ret;exact⟨v9 (by rw[y5.o]),m9.o.Y t1⟩
 | true=>
 have HRT:=O hru;rw[hru]at HVW;clear hru HRU Zo;go_enter Tryz.func7,Tryz.ntmps7;go_wp2_with fail;refine HVW.o.mono ?_;rintro r w1 ⟨rfl,t1⟩;have J6:=O t1;clear t1 HVW d1;go_wp2_with fail;generalize El:w.alloc _=w0 at*;clear El;generalize w.heap.size=g at*;go_loopw [3] (fun ti wr=>qy2 w0 p.D ti wr) (fun ti _=>p.D.length - (intOf ti).toNat)
 case atStart=>exact⟨0,by omega,rfl,J6.o,O (vr.zero _)⟩
 case round=>
  clear J6;obtain⟨k,hk,rfl,ht,HX⟩:=hrel;obtain⟨r0,r1,r2,r3⟩:=HK.o wr ht;by_cases Z:k<p.D.length
  ·have j1:(k:Int)< (p.D.length:Int):=by omega
   have T2:=Bb.o wr (m9.o.Y ht);obtain⟨b,off,cc,rfl,hb,-,N0⟩:=T2.d.at_ Z;obtain⟨c0,c1,B8⟩:=N0 wr (z8 _ _);obtain⟨A3,Qp,rfl⟩:=B8.form;have ze6:=HLC.o _ (k8 Z);have HG0:=O (HBG.o k Z);have jS:=p7 (fun W' t=>B8.q8 t)
   have HPV:Hid (∀m,k=m+1→ ∀(hm:m<p.D.length),wr.cell? ⟨b,off+m*2,none⟩=some (.int .i64 p.D[m].st)∧(¬p.D[m].st<p.D[k].st→n9=false)∧(K4 p.D[k]=true→p.D[m].st<p.D[k].st→vr p.D (k+1))):=O (fun m hm wU=>by
    subst hm;refine⟨?_,fun e=>HBI.o m Z (by omega),fun e1 e2=>HX.o.step Z e1 e2⟩;obtain⟨b',ql9,c',e,-,-,H'⟩:=T2.d.at_ wU;injection e with e;injection e with e5 e6;subst e5 e6
    exact(H' wr (z8 _ _)).1)
   have HU0:Hid (k=0→K4 p.D[k]=true→vr p.D (k+1)):=O (fun e1 e2=>by subst e1;exact vr.first Z e2);clear T2 N0 B8 HX;generalize p.D[k]=x at*;obtain⟨st,ch⟩:=x;simp only at c0 c1 ze6 jS HPV;have Ae:=O (ht.alloc (.cells #[.int .i64 st,.slice A3 ch.length Qp] 75));have XH:=O ((z8 [] wr).alloc (.cells #[.int .i64 st,.slice A3 ch.length Qp] 75));have bx:=j4.new wr 75 #[.int .i64 st,.slice A3 ch.length Qp];have HPW:Hid (∀(o:Nat) v,wr.cell? ⟨b,o,none⟩=some v→(wr.alloc (.cells #[.int .i64 st,.slice A3 ch.length Qp] 75)).cell? ⟨b,o,none⟩=some v):=O (fun o v e=>Lib.cell?_alloc_some _ e);have HT:=O ht;clear ht;go_wp2_with fail;obtain⟨r0,r1,r2,r3⟩:=HK.o _ Ae.o;generalize gN:wr.alloc _=w1 at*;clear gN c0 c1;obtain⟨gx,Mi⟩: ∃gx,gx=wr.heap.size:=⟨_,rfl⟩;rw[←Mi]at bx⊢;clear Mi hb;have q0:w1.cell? ⟨gx,0,none⟩=some (.int .i64 st):=(bx.cell 0).trans rfl;have q1:w1.cell? ⟨gx,1,none⟩=some (.slice A3 ch.length Qp):=(bx.cell 1).trans rfl
   cases hs:K2 st with
   | false=>
    have y5:=O (HG0.o (by unfold K4;simp only;rw[hs];rfl));have Q9:=O (fun W=>hs ▸ j3 st W);clear hs;go_quiet ((first | (go_at_call 25;exact x8 (Q9.o _))));go_wp2_with fail;go_ret;exact⟨v9 (by rw[y5.o]),m9.o.Y (Ae.o.drewN _)⟩
   | true=>
   have HSI:=O hs;have Q9:=O (fun W=>hs ▸ j3 st W);clear hs;rcases Tu k with Em | Em
   ·have qd9:=O (HU0.o Em);have hgt:decide ((0:Int)< (k:Int))=false:=v8 (by omega);have hgn:decide (0<k)=false:=v8 (by omega);clear Em;clear HPV HU0 HPW;by_cases h50:ch.length≤50;rotate_left
    ·have d50:decide ((50:Int)< (ch.length:Int))=true:=b_ (by omega)
     have y5:=O (HG0.o (by cases e:K4 ⟨st,ch⟩with
      | false=>rfl
      | true=>exact absurd (lR e) h50))
     go_quiet ((first | (go_at_call 25;exact x8 (Q9.o _))));go_wp2_with fail;go_ret;exact⟨v9 (by rw[y5.o]),m9.o.Y (Ae.o.drewN _)⟩
    have d50:decide ((50:Int)< (ch.length:Int))=false:=v8 (by omega);go_quiet ((first | (go_at_call 25;exact x8 (Q9.o _))));go_wp2_with fail;have N6:=O (bx.drewN nq)
    replace Ae:=O (Ae.o.drewN nq)
    replace XH:=O (XH.o.drewN nq)
    clear hgt hgn bx q0 q1 r0 r1 r2 r3 Q9;generalize w1.drewN nq=w2 at*;generalize wr=wa at*;go_loopw [5] (fun ti wq=>ZK w2 ch ti wq) (fun ti _=>ch.length - (intOf ti).toNat)
    case atStart=>exact⟨0,by omega,rfl,z8 _ _,O ⟨fun j x h=>by omega,fun j x y h=>by omega⟩⟩
    case round=>
     obtain⟨j,hj,rfl,ht,HY⟩:=hrel;have q1:wr.cell? ⟨gx,1,none⟩=some (.slice A3 ch.length Qp):=((N6.o.z7 ht (by simp)).cell 1).trans rfl;have Q8:=O (Ae.o.Y ht);have B8:=jS.o wr (XH.o.Y ht);have HT:=O ht;clear ht;by_cases Q7:j<ch.length
     ·have Jo:(j:Int)< (ch.length:Int):=by omega
      obtain⟨b2,Hn,rfl,U3⟩:=B8.addr Q7;have c3:=e8.at_ B8 Q7;have DV:ch[j]? =some ch[j]:=j6 Q7;have HBY:Hid (¬(2≤ch[j]∧ch[j]≤51)→n9=false):=O (fun e=>HG0.o (lS DV e))
      have HNY:Hid (2≤ch[j]∧ch[j]≤51→(∀i,j=i+1→ ∀(hi:i<ch.length),ch[i]<ch[j])→F_ ch (j+1)):=O (fun e1 e2=>⟨fun i x hi hx=>by
        by_cases h:i<j
        ·exact HY.o.1 i x h hx
        ·obtain rfl:i=j:=by omega
         rw[DV]at hx;injection hx with hx
         rw[←hx];exact e1,fun i x y hi hx hy=>by
        by_cases h:i+1<j
        ·exact HY.o.2 i x y h hx hy
        ·have Rl:j=i+1:=by omega
         have CL:i<ch.length:=by omega
         have:=e2 i Rl CL;rw[j6 CL]at hx;rw[←Rl,DV]at hy;injection hx with hx;injection hy with hy
         rw[←hx,←hy];exact this⟩)
      have yJ:Hid (∀i,j=i+1→ ∀(hi:i<ch.length),wr.cell? ⟨b2,Hn+i,none⟩=some (.int .i64 ch[i])∧(¬ch[i]<ch[j]→n9=false)):=O (fun i Rl hi=>⟨e8.at_ B8 hi,fun e=>HG0.o (by subst Rl;exact fR (j6 hi) DV e)⟩);clear B8 DV HY;generalize hyy:ch[j]=y at*;clear hyy;by_cases h1:y<2
      ·have d1:decide (y<2)=true:=b_ h1;have y5:=O (HBY.o (by omega));go_wp2_with fail;go_quiet (fail);go_wp2_with fail;go_ret;exact⟨v9 (by rw[y5.o]),m9.o.Y (Q8.o.drewN _)⟩
      have d1:decide (y<2)=false:=v8 h1;by_cases h2:51<y
      ·have d2:decide (51<y)=true:=b_ h2;have y5:=O (HBY.o (by omega));go_wp2_with fail;go_quiet (fail);go_wp2_with fail;go_ret;exact⟨v9 (by rw[y5.o]),m9.o.Y (Q8.o.drewN _)⟩
      have d2:decide (51<y)=false:=v8 h2;have yK:=O (HNY.o ⟨by omega,by omega⟩);rcases Tu j with hj0 | hj0
      ·have hgj:decide ((0:Int)< (j:Int))=false:=v8 (by omega);have hgm:decide (0<j)=false:=v8 (by omega);have OW:=O (yK.o (fun i hi=>by omega));clear hj0 yJ;go_wp2_with fail;go_quiet (fail);go_wp2_with fail;go_roundw
       case rel=>exact⟨j+1,by omega,by go_num,HT.o.drewN _,OW⟩
       case measure=>simp[intOf];omega
      ·obtain⟨i,bF⟩: ∃i,j=i+1:=⟨j - 1,by omega⟩;have mz:i<ch.length:=by omega
       obtain⟨c4,Wc⟩:=yJ.o i bF mz;have hgj:decide ((0:Int)< (j:Int))=true:=b_ (by omega);have bY:=O Wc;have n_:(i:Int)< (ch.length:Int):=by omega
       have hwj:IntKind.i64.wrap ((j:Int) - 1)=(i:Int):=by rw[IntWalk.i64_in _ (by omega)];omega
       have qe4:Hid (ch[i]<y→F_ ch (j+1)):=O (fun e=>yK.o (fun i' Xt CL=>by obtain rfl:i=i':=(by omega);exact e));clear Wc yJ HNY yK bF;generalize ch[i]=z at*;by_cases h3:z<y
       ·have d3:decide (y≤z)=false:=v8 (by omega);have OW:=O (qe4.o h3);go_wp2_with fail;go_quiet (fail);go_wp2_with fail;go_roundw
        case rel=>exact⟨j+1,by omega,by go_num,HT.o.drewN _,OW⟩
        case measure=>simp[intOf];omega
       ·have d3:decide (y≤z)=true:=b_ (by omega);have y5:=O (bY.o (by omega));go_wp2_with fail;go_quiet (fail);go_wp2_with fail;go_ret;exact⟨v9 (by rw[y5.o]),m9.o.Y (Q8.o.drewN _)⟩
     ·have Jo: ¬(j:Int)< (ch.length:Int):=by omega
      have HUP:=O (qd9.o (HY.o.good (x:=⟨st,ch⟩) (by show ch.length≤j;omega) HSI.o));clear B8 HY;go_wp2_with fail;exact⟨⟨k+1,by omega,by go_num,Q8.o,HUP⟩,by simp[intOf];omega⟩
   ·obtain⟨m,hkm⟩: ∃m,k=m+1:=⟨k - 1,by omega⟩;have wU:m<p.D.length:=by omega
    obtain⟨e0,Wc,cH⟩:=HPV.o m hkm wU;have hgt:decide ((0:Int)< (k:Int))=true:=b_ (by omega);have cp:=HPW.o _ _ e0;have bY:=O Wc;have Gd:=O cH;have n_:(m:Int)< (p.D.length:Int):=by omega
    have tj:IntKind.i64.wrap ((k:Int) - 1)=(m:Int):=by rw[IntWalk.i64_in _ (by omega)];omega
    have HKM:=O hkm;clear hkm;clear e0 Wc cH HPV HU0 HPW;generalize p.D[m].st=pst at*;by_cases hps:pst<st;rotate_left
    ·have dp:decide (st≤pst)=true:=b_ (by omega);have y5:=O (bY.o (by omega));go_quiet ((first | (go_at_call 25;exact x8 (Q9.o _))));go_wp2_with fail;go_ret;exact⟨v9 (by rw[y5.o]),m9.o.Y (Ae.o.drewN _)⟩
    have dp:decide (st≤pst)=false:=v8 (by omega);have qd9:=O (fun e=>Gd.o e hps);by_cases h50:ch.length≤50;rotate_left
    ·have d50:decide ((50:Int)< (ch.length:Int))=true:=b_ (by omega)
     have y5:=O (HG0.o (by cases e:K4 ⟨st,ch⟩with
      | false=>rfl
      | true=>exact absurd (lR e) h50))
     go_quiet ((first | (go_at_call 25;exact x8 (Q9.o _))));go_wp2_with fail;go_ret;exact⟨v9 (by rw[y5.o]),m9.o.Y (Ae.o.drewN _)⟩
    have d50:decide ((50:Int)< (ch.length:Int))=false:=v8 (by omega);go_quiet ((first | (go_at_call 25;exact x8 (Q9.o _))));go_wp2_with fail;have N6:=O (bx.drewN nq)
    replace Ae:=O (Ae.o.drewN nq)
    replace XH:=O (XH.o.drewN nq)
    clear hgt cp dp n_ tj bx q0 q1 r0 r1 r2 r3 Q9;generalize w1.drewN nq=w2 at*;generalize wr=wa at*;go_loopw [5] (fun ti wq=>ZK w2 ch ti wq) (fun ti _=>ch.length - (intOf ti).toNat)
    case atStart=>exact⟨0,by omega,rfl,z8 _ _,O ⟨fun j x h=>by omega,fun j x y h=>by omega⟩⟩
    case round=>
     obtain⟨j,hj,rfl,ht,HY⟩:=hrel;have q1:wr.cell? ⟨gx,1,none⟩=some (.slice A3 ch.length Qp):=((N6.o.z7 ht (by simp)).cell 1).trans rfl;have Q8:=O (Ae.o.Y ht);have B8:=jS.o wr (XH.o.Y ht);have HT:=O ht;clear ht;by_cases Q7:j<ch.length
     ·have Jo:(j:Int)< (ch.length:Int):=by omega
      obtain⟨b2,Hn,rfl,U3⟩:=B8.addr Q7;have c3:=e8.at_ B8 Q7;have DV:ch[j]? =some ch[j]:=j6 Q7;have HBY:Hid (¬(2≤ch[j]∧ch[j]≤51)→n9=false):=O (fun e=>HG0.o (lS DV e))
      have HNY:Hid (2≤ch[j]∧ch[j]≤51→(∀i,j=i+1→ ∀(hi:i<ch.length),ch[i]<ch[j])→F_ ch (j+1)):=O (fun e1 e2=>⟨fun i x hi hx=>by
        by_cases h:i<j
        ·exact HY.o.1 i x h hx
        ·obtain rfl:i=j:=by omega
         rw[DV]at hx;injection hx with hx
         rw[←hx];exact e1,fun i x y hi hx hy=>by
        by_cases h:i+1<j
        ·exact HY.o.2 i x y h hx hy
        ·have Rl:j=i+1:=by omega
         have CL:i<ch.length:=by omega
         have:=e2 i Rl CL;rw[j6 CL]at hx;rw[←Rl,DV]at hy;injection hx with hx;injection hy with hy
         rw[←hx,←hy];exact this⟩)
      have yJ:Hid (∀i,j=i+1→ ∀(hi:i<ch.length),wr.cell? ⟨b2,Hn+i,none⟩=some (.int .i64 ch[i])∧(¬ch[i]<ch[j]→n9=false)):=O (fun i Rl hi=>⟨e8.at_ B8 hi,fun e=>HG0.o (by subst Rl;exact fR (j6 hi) DV e)⟩);clear B8 DV HY;generalize hyy:ch[j]=y at*;clear hyy;by_cases h1:y<2
      ·have d1:decide (y<2)=true:=b_ h1;have y5:=O (HBY.o (by omega));go_wp2_with fail;go_quiet (fail);go_wp2_with fail;go_ret;exact⟨v9 (by rw[y5.o]),m9.o.Y (Q8.o.drewN _)⟩
      have d1:decide (y<2)=false:=v8 h1;by_cases h2:51<y
      ·have d2:decide (51<y)=true:=b_ h2;have y5:=O (HBY.o (by omega));go_wp2_with fail;go_quiet (fail);go_wp2_with fail;go_ret;exact⟨v9 (by rw[y5.o]),m9.o.Y (Q8.o.drewN _)⟩
      have d2:decide (51<y)=false:=v8 h2;have yK:=O (HNY.o ⟨by omega,by omega⟩);rcases Tu j with hj0 | hj0
      ·have hgj:decide ((0:Int)< (j:Int))=false:=v8 (by omega);have hgm:decide (0<j)=false:=v8 (by omega);have OW:=O (yK.o (fun i hi=>by omega));clear hj0 yJ;go_wp2_with fail;go_quiet (fail);go_wp2_with fail;go_roundw
       case rel=>exact⟨j+1,by omega,by go_num,HT.o.drewN _,OW⟩
       case measure=>simp[intOf];omega
      ·obtain⟨i,bF⟩: ∃i,j=i+1:=⟨j - 1,by omega⟩;have mz:i<ch.length:=by omega
       obtain⟨c4,Wc⟩:=yJ.o i bF mz;have hgj:decide ((0:Int)< (j:Int))=true:=b_ (by omega);have bY:=O Wc;have n_:(i:Int)< (ch.length:Int):=by omega
       have hwj:IntKind.i64.wrap ((j:Int) - 1)=(i:Int):=by rw[IntWalk.i64_in _ (by omega)];omega
       have qe4:Hid (ch[i]<y→F_ ch (j+1)):=O (fun e=>yK.o (fun i' Xt CL=>by obtain rfl:i=i':=(by omega);exact e));clear Wc yJ HNY yK bF;generalize ch[i]=z at*;by_cases h3:z<y
       ·have d3:decide (y≤z)=false:=v8 (by omega);have OW:=O (qe4.o h3);go_wp2_with fail;go_quiet (fail);go_wp2_with fail;go_roundw
        case rel=>exact⟨j+1,by omega,by go_num,HT.o.drewN _,OW⟩
        case measure=>simp[intOf];omega
       ·have d3:decide (y≤z)=true:=b_ (by omega);have y5:=O (bY.o (by omega));go_wp2_with fail;go_quiet (fail);go_wp2_with fail;go_ret;exact⟨v9 (by rw[y5.o]),m9.o.Y (Q8.o.drewN _)⟩
     ·have Jo: ¬(j:Int)< (ch.length:Int):=by omega
      have HUP:=O (qd9.o (HY.o.good (x:=⟨st,ch⟩) (by show ch.length≤j;omega) HSI.o));clear B8 HY;go_wp2_with fail;exact⟨⟨k+1,by omega,by go_num,Q8.o,HUP⟩,by simp[intOf];omega⟩
  ·have j1: ¬(k:Int)< (p.D.length:Int):=by omega
   have I1:k=p.D.length:=by omega
   have HUQ:Hid (vr p.D p.D.length):=O (by rw[←I1];exact HX.o);have D6:=O ht;clear HX ht I1;go_wp2_with fail;clear r0 r1 r2 r3;go_loopw [6] (fun ti wr=>C9 (fun x:Q5=>y8 p x.a&&y8 p x.b) w0 p.R.P ti wr) (fun ti _=>p.R.P.length - (intOf ti).toNat)
   case atStart=>exact⟨0,by omega,rfl,D6.o,O (fun j x h=>by omega)⟩
   case round=>
    clear D6;obtain⟨k,hk,rfl,ht,HX⟩:=hrel;obtain⟨r0,r1,r2,r3⟩:=HK.o wr ht;by_cases Z:k<p.R.P.length
    ·have j1:(k:Int)< (p.R.P.length:Int):=by omega
     have T2:=Bb.o wr (m9.o.Y ht);obtain⟨b,off,rfl,hb⟩:=T2.pr.addr Z
     have Ko:Hid (∀W',z6 [] wr W'→W'.cell? ⟨b,off+k*5,none⟩=some (.int .i64 p.R.P[k].a)∧W'.cell? ⟨b,off+k*5+1,none⟩=some (.int .i64 p.R.P[k].b)):=O (fun W' t=>(by
      have:=o5.at_ (T2.q8 t).pr Z
      exact⟨this.1,this.2.1⟩))
     have mM:=Df p p.R.P[k].a;have mg:=Df p p.R.P[k].b;have D7:Hid ((y8 p p.R.P[k].a&&y8 p p.R.P[k].b)=false→n9=false):=O (fun e=>jT.o (B7 (good:=(fun x:Q5=>y8 p x.a&&y8 p x.b)) Z e));have I5:Hid ((y8 p p.R.P[k].a&&y8 p p.R.P[k].b)=true→ ∀(j:Nat) x,j<k+1→p.R.P[j]? =some x→(fun x:Q5=>y8 p x.a&&y8 p x.b) x=true):=O (fun e=>X7 (good:=(fun x:Q5=>y8 p x.a&&y8 p x.b)) HX.o Z e);clear T2 HX;generalize y8 p p.R.P[k].a=qa at*;generalize y8 p p.R.P[k].b=qb at*;generalize p.R.P[k].a=xa at*;generalize p.R.P[k].b=xb at*;have HT:=O ht;clear ht;go_wp2_with fail;clear r0 r1 r2 r3
     cases qa with
     | false=>
      have dz:decide (L2 p.D xa<0)=true:=b_ (by have:=Gt mM.symm;omega);clear mM mg;refine wp_region_held_drew (S:=fun W=>z6 [] wr W) (by kernel_rfl) (z8 _ _).drew (fun hS=> ?_);refine kw 0 hS ?_ (hy:=by intro W m7;obtain⟨e0,e1,e2,e3⟩:=HK.o W (HT.o.Y m7);go_simp<;>rfl);refine kw 1 hS ?_;refine kw 2 hS ?_;refine kw 3 hS ?_ (hy:=by intro W m7;obtain⟨e0,e1,e2,e3⟩:=HK.o W (HT.o.Y m7);go_simp<;>rfl);refine kw 4 hS ?_;refine kw 5 hS ?_;refine kw 6 hS ?_;refine kw 7 hS ?_ (hy:=by intro W m7;obtain⟨ca,cb⟩:=Ko.o W m7;go_simp<;>rfl);refine s8 8 rfl (fun K hK=> ?_);go_simp;refine(aB.o _ (m9.o.Y (HT.o.Y hS)) xa).mono ?_;rintro r w2 ⟨rfl,t8⟩;have p8:=hS.Y t8;go_wp2_with fail;refine zk6 hK p8 ?_;clear hK K;refine s8 9 rfl (fun K hK=> ?_);go_simp;refine zk6 hK p8 ?_;clear hK K;refine s8 10 rfl (fun K hK=> ?_);go_simp;refine zk6 hK p8 ?_;clear hK K;refine ku 11 p8 ?_;refine ku 12 p8 ?_;refine ku 13 p8 ?_;refine ku 14 p8 ?_;refine ku 15 p8 ?_;refine ku 16 p8 ?_;refine ku 17 p8 ?_;refine ku 18 p8 ?_;refine ku 19 p8 ?_;refine ku 20 p8 ?_;refine s8 21 rfl (fun K hK=> ?_);go_simp;refine zk6 hK p8 ?_;clear hK K;refine wpAnyH_done (by kernel_rfl) ?_ _;have y5:=O (D7.o (by simp));have Bq:=O (HT.o.Y p8);clear p8;go_wp2_with fail;go_ret;exact⟨v9 (by rw[y5.o]),m9.o.Y Bq.o⟩
     | true=>
      have dz:decide (L2 p.D xa<0)=false:=v8 (by have:=U9 mM.symm;omega);clear mM
      cases qb with
      | false=>
       have dy:decide (L2 p.D xb<0)=true:=b_ (by have:=Gt mg.symm;omega);clear mg;refine wp_region_held_drew (S:=fun W=>z6 [] wr W) (by kernel_rfl) (z8 _ _).drew (fun hS=> ?_);refine kw 0 hS ?_ (hy:=by intro W m7;obtain⟨e0,e1,e2,e3⟩:=HK.o W (HT.o.Y m7);go_simp<;>rfl);refine kw 1 hS ?_;refine kw 2 hS ?_;refine kw 3 hS ?_ (hy:=by intro W m7;obtain⟨e0,e1,e2,e3⟩:=HK.o W (HT.o.Y m7);go_simp<;>rfl);refine kw 4 hS ?_;refine kw 5 hS ?_;refine kw 6 hS ?_;refine kw 7 hS ?_ (hy:=by intro W m7;obtain⟨ca,cb⟩:=Ko.o W m7;go_simp<;>rfl);refine s8 8 rfl (fun K hK=> ?_);go_simp;refine(aB.o _ (m9.o.Y (HT.o.Y hS)) xa).mono ?_;rintro r w2 ⟨rfl,t8⟩;have p8:=hS.Y t8;go_wp2_with fail;refine zk6 hK p8 ?_;clear hK K;refine s8 9 rfl (fun K hK=> ?_);go_simp;refine zk6 hK p8 ?_;clear hK K;refine s8 10 rfl (fun K hK=> ?_);go_simp;refine zk6 hK p8 ?_;clear hK K;refine kw 11 p8 ?_ (hy:=by intro W m7;obtain⟨e0,e1,e2,e3⟩:=HK.o W (HT.o.Y m7);go_simp<;>rfl);refine kw 12 p8 ?_;refine kw 13 p8 ?_;refine kw 14 p8 ?_ (hy:=by intro W m7;obtain⟨e0,e1,e2,e3⟩:=HK.o W (HT.o.Y m7);go_simp<;>rfl);refine kw 15 p8 ?_;refine kw 16 p8 ?_;refine kw 17 p8 ?_;refine kw 18 p8 ?_ (hy:=by intro W m7;obtain⟨ca,cb⟩:=Ko.o W m7;go_simp<;>rfl);refine s8 19 rfl (fun K hK=> ?_);go_simp;refine(aB.o _ (m9.o.Y (HT.o.Y p8)) xb).mono ?_;rintro r w3 ⟨rfl,t19⟩;have Hv:=p8.Y t19;go_wp2_with fail;refine zk6 hK Hv ?_;clear hK K;refine s8 20 rfl (fun K hK=> ?_);go_simp;refine zk6 hK Hv ?_;clear hK K;refine s8 21 rfl (fun K hK=> ?_);go_simp;refine zk6 hK Hv ?_;clear hK K;refine wpAnyH_done (by kernel_rfl) ?_ _;have y5:=O (D7.o (by simp));have Bq:=O (HT.o.Y Hv);clear p8 Hv;go_wp2_with fail;go_ret;exact⟨v9 (by rw[y5.o]),m9.o.Y Bq.o⟩
      | true=>
       have dy:decide (L2 p.D xb<0)=false:=v8 (by have:=U9 mg.symm;omega);clear mg;refine wp_region_held_drew (S:=fun W=>z6 [] wr W) (by kernel_rfl) (z8 _ _).drew (fun hS=> ?_);refine kw 0 hS ?_ (hy:=by intro W m7;obtain⟨e0,e1,e2,e3⟩:=HK.o W (HT.o.Y m7);go_simp<;>rfl);refine kw 1 hS ?_;refine kw 2 hS ?_;refine kw 3 hS ?_ (hy:=by intro W m7;obtain⟨e0,e1,e2,e3⟩:=HK.o W (HT.o.Y m7);go_simp<;>rfl);refine kw 4 hS ?_;refine kw 5 hS ?_;refine kw 6 hS ?_;refine kw 7 hS ?_ (hy:=by intro W m7;obtain⟨ca,cb⟩:=Ko.o W m7;go_simp<;>rfl);refine s8 8 rfl (fun K hK=> ?_);go_simp;refine(aB.o _ (m9.o.Y (HT.o.Y hS)) xa).mono ?_;rintro r w2 ⟨rfl,t8⟩;have p8:=hS.Y t8;go_wp2_with fail;refine zk6 hK p8 ?_;clear hK K;refine s8 9 rfl (fun K hK=> ?_);go_simp;refine zk6 hK p8 ?_;clear hK K;refine s8 10 rfl (fun K hK=> ?_);go_simp;refine zk6 hK p8 ?_;clear hK K;refine kw 11 p8 ?_ (hy:=by intro W m7;obtain⟨e0,e1,e2,e3⟩:=HK.o W (HT.o.Y m7);go_simp<;>rfl);refine kw 12 p8 ?_;refine kw 13 p8 ?_;refine kw 14 p8 ?_ (hy:=by intro W m7;obtain⟨e0,e1,e2,e3⟩:=HK.o W (HT.o.Y m7);go_simp<;>rfl);refine kw 15 p8 ?_;refine kw 16 p8 ?_;refine kw 17 p8 ?_;refine kw 18 p8 ?_ (hy:=by intro W m7;obtain⟨ca,cb⟩:=Ko.o W m7;go_simp<;>rfl);refine s8 19 rfl (fun K hK=> ?_);go_simp;refine(aB.o _ (m9.o.Y (HT.o.Y p8)) xb).mono ?_;rintro r w3 ⟨rfl,t19⟩;have Hv:=p8.Y t19;go_wp2_with fail;refine zk6 hK Hv ?_;clear hK K;refine s8 20 rfl (fun K hK=> ?_);go_simp;refine zk6 hK Hv ?_;clear hK K;refine s8 21 rfl (fun K hK=> ?_);go_simp;refine zk6 hK Hv ?_;clear hK K;refine wpAnyH_done (by kernel_rfl) ?_ _;have W7:=O (I5.o (by simp));have Bq:=O (HT.o.Y Hv);clear p8 Hv;go_wp2_with fail;exact⟨⟨k+1,by omega,by go_num,Bq.o,W7⟩,by simp[intOf];omega⟩
    ·have j1: ¬(k:Int)< (p.R.P.length:Int):=by omega
     have HDP:=O (U8 HX.o (by omega));have D6:=O ht;clear HX ht;go_wp2_with fail;clear r0 r1 r2 r3;go_loopw [7] (fun ti wr=>C9 (fun x:Q5=>y8 p x.a&&y8 p x.b) w0 p.R.L ti wr) (fun ti _=>p.R.L.length - (intOf ti).toNat)
     case atStart=>exact⟨0,by omega,rfl,D6.o,O (fun j x h=>by omega)⟩
     case round=>
      clear D6;obtain⟨k,hk,rfl,ht,HX⟩:=hrel;obtain⟨r0,r1,r2,r3⟩:=HK.o wr ht;by_cases Z:k<p.R.L.length
      ·have j1:(k:Int)< (p.R.L.length:Int):=by omega
       have T2:=Bb.o wr (m9.o.Y ht);obtain⟨b,off,rfl,hb⟩:=T2.ld.addr Z
       have Ko:Hid (∀W',z6 [] wr W'→W'.cell? ⟨b,off+k*5,none⟩=some (.int .i64 p.R.L[k].a)∧W'.cell? ⟨b,off+k*5+1,none⟩=some (.int .i64 p.R.L[k].b)):=O (fun W' t=>(by
        have:=o5.at_ (T2.q8 t).ld Z
        exact⟨this.1,this.2.1⟩))
       have mM:=Df p p.R.L[k].a;have mg:=Df p p.R.L[k].b;have D7:Hid ((y8 p p.R.L[k].a&&y8 p p.R.L[k].b)=false→n9=false):=O (fun e=>EQ.o (B7 (good:=(fun x:Q5=>y8 p x.a&&y8 p x.b)) Z e));have I5:Hid ((y8 p p.R.L[k].a&&y8 p p.R.L[k].b)=true→ ∀(j:Nat) x,j<k+1→p.R.L[j]? =some x→(fun x:Q5=>y8 p x.a&&y8 p x.b) x=true):=O (fun e=>X7 (good:=(fun x:Q5=>y8 p x.a&&y8 p x.b)) HX.o Z e);clear T2 HX;generalize y8 p p.R.L[k].a=qa at*;generalize y8 p p.R.L[k].b=qb at*;generalize p.R.L[k].a=xa at*;generalize p.R.L[k].b=xb at*;have HT:=O ht;clear ht;go_wp2_with fail;clear r0 r1 r2 r3
       cases qa with
       | false=>
        have dz:decide (L2 p.D xa<0)=true:=b_ (by have:=Gt mM.symm;omega);clear mM mg;refine wp_region_held_drew (S:=fun W=>z6 [] wr W) (by kernel_rfl) (z8 _ _).drew (fun hS=> ?_);refine kw 0 hS ?_ (hy:=by intro W m7;obtain⟨e0,e1,e2,e3⟩:=HK.o W (HT.o.Y m7);go_simp<;>rfl);refine kw 1 hS ?_;refine kw 2 hS ?_;refine kw 3 hS ?_ (hy:=by intro W m7;obtain⟨e0,e1,e2,e3⟩:=HK.o W (HT.o.Y m7);go_simp<;>rfl);refine kw 4 hS ?_;refine kw 5 hS ?_;refine kw 6 hS ?_;refine kw 7 hS ?_ (hy:=by intro W m7;obtain⟨ca,cb⟩:=Ko.o W m7;go_simp<;>rfl);refine s8 8 rfl (fun K hK=> ?_);go_simp;refine(aB.o _ (m9.o.Y (HT.o.Y hS)) xa).mono ?_;rintro r w2 ⟨rfl,t8⟩;have p8:=hS.Y t8;go_wp2_with fail;refine zk6 hK p8 ?_;clear hK K;refine s8 9 rfl (fun K hK=> ?_);go_simp;refine zk6 hK p8 ?_;clear hK K;refine s8 10 rfl (fun K hK=> ?_);go_simp;refine zk6 hK p8 ?_;clear hK K;refine ku 11 p8 ?_;refine ku 12 p8 ?_;refine ku 13 p8 ?_;refine ku 14 p8 ?_;refine ku 15 p8 ?_;refine ku 16 p8 ?_;refine ku 17 p8 ?_;refine ku 18 p8 ?_;refine ku 19 p8 ?_;refine ku 20 p8 ?_;refine s8 21 rfl (fun K hK=> ?_);go_simp;refine zk6 hK p8 ?_;clear hK K;refine wpAnyH_done (by kernel_rfl) ?_ _;have y5:=O (D7.o (by simp));have Bq:=O (HT.o.Y p8);clear p8;go_wp2_with fail;go_ret;exact⟨v9 (by rw[y5.o]),m9.o.Y Bq.o⟩
       | true=>
        have dz:decide (L2 p.D xa<0)=false:=v8 (by have:=U9 mM.symm;omega);clear mM
        cases qb with
        | false=>
         have dy:decide (L2 p.D xb<0)=true:=b_ (by have:=Gt mg.symm;omega);clear mg;refine wp_region_held_drew (S:=fun W=>z6 [] wr W) (by kernel_rfl) (z8 _ _).drew (fun hS=> ?_);refine kw 0 hS ?_ (hy:=by intro W m7;obtain⟨e0,e1,e2,e3⟩:=HK.o W (HT.o.Y m7);go_simp<;>rfl);refine kw 1 hS ?_;refine kw 2 hS ?_;refine kw 3 hS ?_ (hy:=by intro W m7;obtain⟨e0,e1,e2,e3⟩:=HK.o W (HT.o.Y m7);go_simp<;>rfl);refine kw 4 hS ?_;refine kw 5 hS ?_;refine kw 6 hS ?_;refine kw 7 hS ?_ (hy:=by intro W m7;obtain⟨ca,cb⟩:=Ko.o W m7;go_simp<;>rfl);refine s8 8 rfl (fun K hK=> ?_);go_simp;refine(aB.o _ (m9.o.Y (HT.o.Y hS)) xa).mono ?_;rintro r w2 ⟨rfl,t8⟩;have p8:=hS.Y t8;go_wp2_with fail;refine zk6 hK p8 ?_;clear hK K;refine s8 9 rfl (fun K hK=> ?_);go_simp;refine zk6 hK p8 ?_;clear hK K;refine s8 10 rfl (fun K hK=> ?_);go_simp;refine zk6 hK p8 ?_;clear hK K;refine kw 11 p8 ?_ (hy:=by intro W m7;obtain⟨e0,e1,e2,e3⟩:=HK.o W (HT.o.Y m7);go_simp<;>rfl);refine kw 12 p8 ?_;refine kw 13 p8 ?_;refine kw 14 p8 ?_ (hy:=by intro W m7;obtain⟨e0,e1,e2,e3⟩:=HK.o W (HT.o.Y m7);go_simp<;>rfl);refine kw 15 p8 ?_;refine kw 16 p8 ?_;refine kw 17 p8 ?_;refine kw 18 p8 ?_ (hy:=by intro W m7;obtain⟨ca,cb⟩:=Ko.o W m7;go_simp<;>rfl);refine s8 19 rfl (fun K hK=> ?_);go_simp;refine(aB.o _ (m9.o.Y (HT.o.Y p8)) xb).mono ?_;rintro r w3 ⟨rfl,t19⟩;have Hv:=p8.Y t19;go_wp2_with fail;refine zk6 hK Hv ?_;clear hK K;refine s8 20 rfl (fun K hK=> ?_);go_simp;refine zk6 hK Hv ?_;clear hK K;refine s8 21 rfl (fun K hK=> ?_);go_simp;refine zk6 hK Hv ?_;clear hK K;refine wpAnyH_done (by kernel_rfl) ?_ _;have y5:=O (D7.o (by simp));have Bq:=O (HT.o.Y Hv);clear p8 Hv;go_wp2_with fail;go_ret;exact⟨v9 (by rw[y5.o]),m9.o.Y Bq.o⟩
        | true=>
         have dy:decide (L2 p.D xb<0)=false:=v8 (by have:=U9 mg.symm;omega);clear mg;refine wp_region_held_drew (S:=fun W=>z6 [] wr W) (by kernel_rfl) (z8 _ _).drew (fun hS=> ?_);refine kw 0 hS ?_ (hy:=by intro W m7;obtain⟨e0,e1,e2,e3⟩:=HK.o W (HT.o.Y m7);go_simp<;>rfl);refine kw 1 hS ?_;refine kw 2 hS ?_;refine kw 3 hS ?_ (hy:=by intro W m7;obtain⟨e0,e1,e2,e3⟩:=HK.o W (HT.o.Y m7);go_simp<;>rfl);refine kw 4 hS ?_;refine kw 5 hS ?_;refine kw 6 hS ?_;refine kw 7 hS ?_ (hy:=by intro W m7;obtain⟨ca,cb⟩:=Ko.o W m7;go_simp<;>rfl);refine s8 8 rfl (fun K hK=> ?_);go_simp;refine(aB.o _ (m9.o.Y (HT.o.Y hS)) xa).mono ?_;rintro r w2 ⟨rfl,t8⟩;have p8:=hS.Y t8;go_wp2_with fail;refine zk6 hK p8 ?_;clear hK K;refine s8 9 rfl (fun K hK=> ?_);go_simp;refine zk6 hK p8 ?_;clear hK K;refine s8 10 rfl (fun K hK=> ?_);go_simp;refine zk6 hK p8 ?_;clear hK K;refine kw 11 p8 ?_ (hy:=by intro W m7;obtain⟨e0,e1,e2,e3⟩:=HK.o W (HT.o.Y m7);go_simp<;>rfl);refine kw 12 p8 ?_;refine kw 13 p8 ?_;refine kw 14 p8 ?_ (hy:=by intro W m7;obtain⟨e0,e1,e2,e3⟩:=HK.o W (HT.o.Y m7);go_simp<;>rfl);refine kw 15 p8 ?_;refine kw 16 p8 ?_;refine kw 17 p8 ?_;refine kw 18 p8 ?_ (hy:=by intro W m7;obtain⟨ca,cb⟩:=Ko.o W m7;go_simp<;>rfl);refine s8 19 rfl (fun K hK=> ?_);go_simp;refine(aB.o _ (m9.o.Y (HT.o.Y p8)) xb).mono ?_;rintro r w3 ⟨rfl,t19⟩;have Hv:=p8.Y t19;go_wp2_with fail;refine zk6 hK Hv ?_;clear hK K;refine s8 20 rfl (fun K hK=> ?_);go_simp;refine zk6 hK Hv ?_;clear hK K;refine s8 21 rfl (fun K hK=> ?_);go_simp;refine zk6 hK Hv ?_;clear hK K;refine wpAnyH_done (by kernel_rfl) ?_ _;have W7:=O (I5.o (by simp));have Bq:=O (HT.o.Y Hv);clear p8 Hv;go_wp2_with fail;exact⟨⟨k+1,by omega,by go_num,Bq.o,W7⟩,by simp[intOf];omega⟩
      ·have j1: ¬(k:Int)< (p.R.L.length:Int):=by omega
       have HDL:=O (U8 HX.o (by omega));have D6:=O ht;clear HX ht;go_wp2_with fail;clear r0 r1 r2 r3;go_loopw [8] (fun ti wr=>C9 (fun x:Q4=>y8 p x.a) w0 p.R.C ti wr) (fun ti _=>p.R.C.length - (intOf ti).toNat)
       case atStart=>exact⟨0,by omega,rfl,D6.o,O (fun j x h=>by omega)⟩
       case round=>
        clear D6;obtain⟨k,hk,rfl,ht,HX⟩:=hrel;obtain⟨r0,r1,r2,r3⟩:=HK.o wr ht;by_cases Z:k<p.R.C.length
        ·have j1:(k:Int)< (p.R.C.length:Int):=by omega
         have T2:=Bb.o wr (m9.o.Y ht);obtain⟨b,off,rfl,hb⟩:=T2.cp.addr Z
         have Ko:Hid (∀W',z6 [] wr W'→W'.cell? ⟨b,off+k*4,none⟩=some (.int .i64 p.R.C[k].a)∧True):=O (fun W' t=>(by
          have:=T9.at_ (T2.q8 t).cp Z
          exact⟨this.1,trivial⟩))
         have mM:=Df p p.R.C[k].a
         skip
         have D7:Hid ((y8 p p.R.C[k].a)=false→n9=false):=O (fun e=>HBC.o (B7 (good:=(fun x:Q4=>y8 p x.a)) Z e));have I5:Hid ((y8 p p.R.C[k].a)=true→ ∀(j:Nat) x,j<k+1→p.R.C[j]? =some x→(fun x:Q4=>y8 p x.a) x=true):=O (fun e=>X7 (good:=(fun x:Q4=>y8 p x.a)) HX.o Z e);clear T2 HX;generalize y8 p p.R.C[k].a=qa at*
         skip
         generalize p.R.C[k].a=xa at*
         skip
         have HT:=O ht;clear ht;go_wp2_with fail;clear r0 r1 r2 r3
         cases qa with
         | false=>
          have dz:decide (L2 p.D xa<0)=true:=b_ (by have:=Gt mM.symm;omega);clear mM;refine wp_region_held_drew (S:=fun W=>z6 [] wr W) (by kernel_rfl) (z8 _ _).drew (fun hS=> ?_);refine kw 0 hS ?_ (hy:=by intro W m7;obtain⟨e0,e1,e2,e3⟩:=HK.o W (HT.o.Y m7);go_simp<;>rfl);refine kw 1 hS ?_;refine kw 2 hS ?_;refine kw 3 hS ?_ (hy:=by intro W m7;obtain⟨e0,e1,e2,e3⟩:=HK.o W (HT.o.Y m7);go_simp<;>rfl);refine kw 4 hS ?_;refine kw 5 hS ?_;refine kw 6 hS ?_;refine kw 7 hS ?_ (hy:=by intro W m7;obtain⟨ca,cb⟩:=Ko.o W m7;go_simp<;>rfl);refine s8 8 rfl (fun K hK=> ?_);go_simp;refine(aB.o _ (m9.o.Y (HT.o.Y hS)) xa).mono ?_;rintro r w2 ⟨rfl,t8⟩;have p8:=hS.Y t8;go_wp2_with fail;refine zk6 hK p8 ?_;clear hK K;refine s8 9 rfl (fun K hK=> ?_);go_simp;refine zk6 hK p8 ?_;clear hK K;refine wpAnyH_done (by kernel_rfl) ?_ _;have y5:=O (D7.o (by simp));have Bq:=O (HT.o.Y p8);clear p8;go_wp2_with fail;go_ret;exact⟨v9 (by rw[y5.o]),m9.o.Y Bq.o⟩
         | true=>
          have dz:decide (L2 p.D xa<0)=false:=v8 (by have:=U9 mM.symm;omega);clear mM;refine wp_region_held_drew (S:=fun W=>z6 [] wr W) (by kernel_rfl) (z8 _ _).drew (fun hS=> ?_);refine kw 0 hS ?_ (hy:=by intro W m7;obtain⟨e0,e1,e2,e3⟩:=HK.o W (HT.o.Y m7);go_simp<;>rfl);refine kw 1 hS ?_;refine kw 2 hS ?_;refine kw 3 hS ?_ (hy:=by intro W m7;obtain⟨e0,e1,e2,e3⟩:=HK.o W (HT.o.Y m7);go_simp<;>rfl);refine kw 4 hS ?_;refine kw 5 hS ?_;refine kw 6 hS ?_;refine kw 7 hS ?_ (hy:=by intro W m7;obtain⟨ca,cb⟩:=Ko.o W m7;go_simp<;>rfl);refine s8 8 rfl (fun K hK=> ?_);go_simp;refine(aB.o _ (m9.o.Y (HT.o.Y hS)) xa).mono ?_;rintro r w2 ⟨rfl,t8⟩;have p8:=hS.Y t8;go_wp2_with fail;refine zk6 hK p8 ?_;clear hK K;refine s8 9 rfl (fun K hK=> ?_);go_simp;refine zk6 hK p8 ?_;clear hK K;refine wpAnyH_done (by kernel_rfl) ?_ _;have W7:=O (I5.o (by simp));have Bq:=O (HT.o.Y p8);clear p8;go_wp2_with fail;exact⟨⟨k+1,by omega,by go_num,Bq.o,W7⟩,by simp[intOf];omega⟩
        ·have j1: ¬(k:Int)< (p.R.C.length:Int):=by omega
         have HDC:=O (U8 HX.o (by omega));have D6:=O ht;clear HX ht;go_wp2_with fail;clear r0 r1 r2 r3;have y5:=O (Y7.o HRT.o HUQ.o HDP.o HDL.o HDC.o);go_ret;exact⟨v9 (by rw[y5.o]),m9.o.Y D6.o⟩
end Go.Proofs.YtlhlmcohdkkjpaaGreatDoor
