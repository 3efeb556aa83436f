/- Layer 17: slices.Index, slices.Contains; what a pair and a cap break (the document). -/
import Derived.Test.YtlhlmcohdkkjpaaGreatDoorZF
set_option linter.all false
set_option maxHeartbeats 32000000
set_option maxRecDepth 100000
namespace Go.Proofs.YtlhlmcohdkkjpaaGreatDoor
open Go.RowKit
def mY (l:List Int)(n:Int):Int:=match l.findIdx? (fun x=>x==n)with
 | some i=>(i:Int)
 | none=> -1
variable{n c:Int}{l:List Int}{ls:List Q5}{k:Nat}{p:Px}{α:Type}
theorem TP (hk:k<l.length)(h: ∀j x,j<k→l[j]? =some x→x≠n)(he:l[k]=n):mY l n=(k:Int):=by
 unfold mY
 rw[tE.2 ⟨hk,by simpa using he,fun j hj=>by
  have:=h j l[j] hj (j6 (by omega))
  simpa using this⟩]
theorem TO (h: ∀j x,j<l.length→l[j]? =some x→x≠n):mY l n= -1:=by
 unfold mY
 rw[tF.2 (fun x hx=>by
  obtain⟨j,hj⟩:=Gk hx;have:=h j x (U4.1 hj).1 hj
  simpa using this)]
theorem MR :decide (0≤mY l n)=l.contains n:=by
 unfold mY
 cases e:l.findIdx? (fun x=>x==n)with
 | none=>
  rw[tF]at e
  have:l.contains n=false:=by
   rw[List.contains_eq_any_beq,tH];intro x hx;have:=e x hx;simp at this⊢;exact fun h=>this h.symm
  rw[this];rfl
 | some i=>
  have h1:=tE.1 e;obtain⟨h2,h3,-⟩:=h1
  have:l.contains n=true:=by
   rw[List.contains_iff_mem];have:l[i]=n:=by simpa using h3
   rw[←this];exact k8 h2
  rw[this];simp
def qx7 (w:World)(l:List Int)(n:Int)(ti:Value)(wr:World):Prop:= ∃k:Nat,k≤l.length∧ti= .int .i64 (k:Int)∧z6 [] w wr∧Hid (∀j x,j<k→l[j]? =some x→x≠n)
theorem zx (v:Value)(l:List Int)(n:Int)(w:World)(hv:e8 w v l):Calls Tryz.prog 131 #[v,.int .i64 n] w fun r w'=>r= .returned (.int .i64 (mY l n))∧z6 [] w w':=by
 obtain⟨A,cap,rfl⟩:=hv.form;obtain⟨Ad,Cs⟩:=hv.cap;have HV:=O (fun W (t:z6 [] w W)=>hv.q8 t);have HA:=O (fun k hk=>TP (l:=l) (n:=n) (k:=k) hk);have HN:=O (fun h=>TO (l:=l) (n:=n) h);generalize mY l n=n9 at*;clear hv;go_enter Tryz.func131,Tryz.ntmps131;go_wp2_with fail;go_loopw [8] (fun ti wr=>qx7 w l n ti wr) (fun ti _=>l.length - (intOf ti).toNat)
 case atStart=>exact⟨0,by omega,rfl,z8 _ _,O (fun j x h=>by omega)⟩
 case round=>
  obtain⟨k,hk,rfl,ht,HX⟩:=hrel;by_cases Z:k<l.length
  ·have j1:(k:Int)< (l.length:Int):=by omega
   have hv:=HV.o wr ht;obtain⟨b,off,rfl,hb⟩:=hv.addr Z;have c0:=e8.at_ hv Z;by_cases he:l[k]=n
   ·have y5:=O (HA.o k Z HX.o he);rw[he]at c0;clear HX HA HN he hv;go_wp2_with fail;go_ret;exact⟨by rw[y5.o];rfl,ht⟩
   ·have My:Hid (∀j x,j<k+1→l[j]? =some x→x≠n):=O (fun j x hj hx=>by
     by_cases h:j<k
     ·exact HX.o j x h hx
     ·obtain rfl:j=k:=by omega
      rw[j6 Z]at hx;injection hx with hx;rw[←hx]
      exact he)
    have qM:(n==l[k])=false:=beq_false_of_ne (fun e=>he e.symm);clear HX he hv;generalize l[k]=s at*;go_wp2_with fail;go_roundw
    case rel=>exact⟨k+1,by omega,by go_num,ht,My⟩
    case measure=>simp[intOf];omega
  ·have j1: ¬(k:Int)< (l.length:Int):=by omega
   have y5:=O (HN.o (fun j x hj=>HX.o j x (by omega)));clear HX HA HN;go_wp2_with fail;go_ret;exact⟨by rw[y5.o];rfl,ht⟩
theorem jC (v:Value)(l:List Int)(n:Int)(w:World)(hv:e8 w v l):Calls Tryz.prog 90 #[v,.int .i64 n] w fun r w'=>r= .returned (.bool (l.contains n))∧z6 [] w w':=by
 have HI:=O (zx v l n w hv);have hm:=MR (l:=l) (n:=n);obtain⟨A,cap,rfl⟩:=hv.form;rw[←hm];generalize mY l n=z at*;clear hm hv;go_enter Tryz.func90,Tryz.ntmps90;go_wp2_with fail;refine HI.o.mono ?_;rintro r w1 ⟨rfl,t1⟩;go_wp2_with fail;go_ret;exact⟨rfl,t1⟩
def A9 (l:List Cx)(r:Q5):Bool:=decide (I4 l r.a≠0∧I4 l r.b≠0∧r.d≤I4 l r.a∧I4 l r.a≤r.e∧I4 l r.b=I4 l r.a+r.c)
theorem gL (x:Q5)(v:Value)(l:List Cx)(w:World)(hv:Q0 w v l)(hx: -1≤x.c∧x.c≤1)(hr: ∀y∈l,0≤y.b∧y.b≤1000):Calls Tryz.prog 95 #[.agg #[.int .i64 x.a,.int .i64 x.b,.int .i64 x.c,.int .i64 x.d,.int .i64 x.e],v] w fun r w'=>r= .returned (.bool (A9 l x))∧z6 [] w w':=by
 obtain⟨xa,xb,xc,xd,xe⟩:=x;simp only at hx;unfold A9;simp only
 have tf: ∀n,0≤I4 l n∧I4 l n≤1000:=by
  intro n;clear hv
  induction l with
  | nil=>unfold I4;omega
  | cons y t ih=>
   unfold I4;by_cases h:y.a=n
   ·rw[x9 h];exact hr y (by simp)
   ·rw[z9 h];exact ih (fun z hz=>hr z (by simp[hz]))
 have ha:=tf xa;have hb:=tf xb;have HA:=p7 (fun W t=>Ud v l xa W (hv.q8 t));have HB:=p7 (fun W t=>Ud v l xb W (hv.q8 t));obtain⟨A,cap,rfl⟩:=hv.form;generalize I4 l xa=za at*;generalize I4 l xb=zb at*;generalize Cp:decide (za≠0∧zb≠0∧xd≤za∧za≤xe∧zb=za+xc)=n9;have HS:=O Cp;clear hv hr tf Cp;have b0:=j4.new w 79 #[.int .i64 xa,.int .i64 xb,.int .i64 xc,.int .i64 xd,.int .i64 xe];have o6:z6 [] w (w.alloc (.cells #[.int .i64 xa,.int .i64 xb,.int .i64 xc,.int .i64 xd,.int .i64 xe] 79)):=(z8 [] w).alloc _;have HK:Hid (∀W',z6 [] (w.alloc (.cells #[.int .i64 xa,.int .i64 xb,.int .i64 xc,.int .i64 xd,.int .i64 xe] 79)) W'→W'.cell? ⟨w.heap.size,0,none⟩=some (.int .i64 xa)∧W'.cell? ⟨w.heap.size,1,none⟩=some (.int .i64 xb)∧W'.cell? ⟨w.heap.size,2,none⟩=some (.int .i64 xc)∧W'.cell? ⟨w.heap.size,3,none⟩=some (.int .i64 xd)∧W'.cell? ⟨w.heap.size,4,none⟩=some (.int .i64 xe)):=O (fun W' t=>⟨((b0.z7 t (by simp)).cell 0).trans rfl,((b0.z7 t (by simp)).cell 1).trans rfl,((b0.z7 t (by simp)).cell 2).trans rfl,((b0.z7 t (by simp)).cell 3).trans rfl,((b0.z7 t (by simp)).cell 4).trans rfl⟩);have hQ:=z8 [] (w.alloc (.cells #[.int .i64 xa,.int .i64 xb,.int .i64 xc,.int .i64 xd,.int .i64 xe] 79));have m9:=O o6;clear b0 o6;go_enter Tryz.func95,Tryz.ntmps95;go_wp2_with fail;generalize El:w.alloc _=w0 at*;clear El
 go_region_held3 (fun W'=>W'.cell? ⟨w.heap.size,0,none⟩=some (.int .i64 xa)∧W'.cell? ⟨w.heap.size,1,none⟩=some (.int .i64 xb)) (first | exact⟨(HK.o _ hQ).1,(HK.o _ hQ).2.1⟩ | exact⟨(HK.o _ hQ.drew).1,(HK.o _ hQ.drew).2.1⟩) (first
  | (go_at_call 94;with_reducible refine(HB.o _ (m9.o.Y hQ)).mono ?_;rintro r w2 ⟨rfl,V4⟩;(try dsimp only);replace hQ:=hQ.Y V4;clear V4)
  | (go_at_call 94;with_reducible refine(HA.o _ (m9.o.Y hQ.drew)).mono ?_;rintro r w1 ⟨rfl,gU⟩;(try dsimp only);replace hQ:=hQ.drew.Y gU;clear gU))
 obtain⟨k0,k1,k2,k3,k4⟩:=HK.o _ hQ;have Zy:=O (m9.o.Y hQ);clear hQ HK HA HB;go_wp2_with fail
 all_goals
  go_ret;refine⟨v9 ?_,Zy.o⟩;rw[←HS.o]
  first
   | exact(v8 (by omega)).symm
   | (rw[Jr];simp;omega)
def Ea (ls:List Q5)(n c:Int)(l:List Cx):Int:=(ls.map (fun x=>if x.a=n∧I4 l x.b=c∧x.d≤c∧c≤x.e then x.c else 0)).sum
theorem Sk {l:List Cx}(hk:k<ls.length):Ea (ls.take (k+1)) n c l=Ea (ls.take k) n c l+(if ls[k].a=n∧I4 l ls[k].b=c∧ls[k].d≤c∧c≤ls[k].e then ls[k].c else 0):=by
 unfold Ea;rw[Cw hk,Yi,List.sum_append];simp
theorem MJ {l:List Cx}(h: ∀x∈ls,0≤x.c∧x.c≤1073741824):0≤Ea ls n c l∧Ea ls n c l≤1073741824*ls.length:=by
 induction ls with
 | nil=>simp[Ea]
 | cons y t ih=>
  have h1:=h y (by simp);have h2:=ih (fun z hz=>h z (by simp[hz]));have e:Ea (y::t) n c l=(if y.a=n∧I4 l y.b=c∧y.d≤c∧c≤y.e then y.c else 0)+Ea t n c l:=rfl;rw[e,Cz];split<;>omega
def qx0 (w0:World)(ls:List Q5)(n c:Int)(l:List Cx)(tn ti:Value)(wr:World):Prop:= ∃(k:Nat) (s:Int),k≤ls.length∧ti= .int .i64 (k:Int)∧tn= .int .i64 s∧z6 [] w0 wr∧Hid (s=Ea (ls.take k) n c l)∧0≤s∧s≤1073741824*k
theorem MI (D P VL C v:Value)(ls:List Q5)(n c:Int)(l:List Cx)(w:World)(hL:o5 w VL ls)(hv:Q0 w v l)(hw: ∀x∈ls,0≤x.c∧x.c≤1073741824)(T3:ls.length≤100000):Calls Tryz.prog 136 #[.agg #[D,P,VL,C],.int .i64 n,.int .i64 c,v] w fun r w'=>r= .returned (.int .i64 (Ea ls n c l))∧z6 [] w w':=by
 obtain⟨A,cap,rfl⟩:=hL.form;obtain⟨B,X2,rfl⟩:=hv.form;have HL:=p7 (fun W t=>hL.q8 t);have St:=O (fun(W:World) (t:z6 [] w W) (m:Int)=>Ud _ l m W (hv.q8 t));have E4:=O hw;have b0:=j4.new w 29 #[D,P,.slice A ls.length cap,C];have o6:z6 [] w (w.alloc (.cells #[D,P,.slice A ls.length cap,C] 29)):=(z8 [] w).alloc _;have HK:Hid (∀W',z6 [] (w.alloc (.cells #[D,P,.slice A ls.length cap,C] 29)) W'→W'.cell? ⟨w.heap.size,2,none⟩=some (.slice A ls.length cap)):=O (fun W' t=>((b0.z7 t (by simp)).cell 2).trans rfl);have m9:=O o6;clear b0 o6 hL hv hw;go_enter Tryz.func136,Tryz.ntmps136;go_wp2_with fail;generalize El:w.alloc (.cells #[D,P,.slice A ls.length cap,C] 29)=w0 at*;clear El;generalize w.heap.size=g at*;go_loopw [9,10] (fun tn ti wr=>qx0 w0 ls n c l tn ti wr) (fun _ ti _=>ls.length - (intOf ti).toNat)
 case atStart=>exact⟨0,0,by omega,rfl,rfl,z8 _ _,O rfl,by omega,by omega⟩
 case round=>
  obtain⟨k,s,hk,rfl,rfl,ht,HS,bA,xF⟩:=hrel;have r2:=HK.o wr ht;by_cases Z:k<ls.length
  ·have j1:(k:Int)< (ls.length:Int):=by omega
   have hL:=HL.o wr (m9.o.Y ht);obtain⟨b,off,rfl,hb⟩:=hL.addr Z;obtain⟨ca,cb,cc,cd,ce⟩:=o5.at_ hL Z;have Hw:=O (Sk (n:=n) (c:=c) (l:=l) Z);rw[←HS.o]at Hw;have WT:=E4.o _ (k8 Z);have jR:Hid (ls[k].a=n∧I4 l ls[k].b=c∧ls[k].d≤c∧c≤ls[k].e→s+ls[k].c=Ea (ls.take (k+1)) n c l):=O (fun h=>by rw[Hw.o,x9 h]);have I5:Hid (¬(ls[k].a=n∧I4 l ls[k].b=c∧ls[k].d≤c∧c≤ls[k].e)→s=Ea (ls.take (k+1)) n c l):=O (fun h=>by rw[Hw.o,z9 h,Ub]);clear Hw;have V0:=O (ht.alloc (.cells #[.int .i64 ls[k].a,.int .i64 ls[k].b,.int .i64 ls[k].c,.int .i64 ls[k].d,.int .i64 ls[k].e] 81));have bx:=j4.new wr 81 #[.int .i64 ls[k].a,.int .i64 ls[k].b,.int .i64 ls[k].c,.int .i64 ls[k].d,.int .i64 ls[k].e];clear hL HS;generalize CC:ls[k]=x at*;clear CC;obtain⟨xa,xb,xc,xd,xe⟩:=x;simp only at ca cb cc cd ce jR I5 WT V0 bx;have HO:=O (St.o _ (m9.o.Y V0.o) xb);generalize I4 l xb=z at*;by_cases hxa:xa=n
   ·subst hxa;go_wp2_with fail;refine HO.o.mono ?_;rintro r w2 ⟨rfl,t2⟩;have b2:=bx.z7 t2 (by simp);have q2:w2.cell? ⟨wr.heap.size,2,none⟩=some (.int .i64 xc):=(b2.cell 2).trans rfl;have q3:w2.cell? ⟨wr.heap.size,3,none⟩=some (.int .i64 xd):=(b2.cell 3).trans rfl;have q4:w2.cell? ⟨wr.heap.size,4,none⟩=some (.int .i64 xe):=(b2.cell 4).trans rfl;have B4:=O (V0.o.Y t2);clear b2 bx t2;go_wp2_with fail
    all_goals first
     | exact⟨⟨k+1,s+xc,by omega,by go_num,by go_num,B4.o,O (jR.o ⟨by first | rfl | trivial,by omega,by omega,by omega⟩),by omega,by omega⟩,by simp[intOf];omega⟩
     | exact⟨⟨k+1,s,by omega,by go_num,rfl,B4.o,O (I5.o (fun h=>by have:=h.2;omega)),by omega,by omega⟩,by simp[intOf];omega⟩
   ·have X3:(xa==n)=false:=by simpa using hxa
    go_wp2_with fail;exact⟨⟨k+1,s,by omega,by go_num,rfl,V0.o,O (I5.o (fun h=>hxa h.1)),by omega,by omega⟩,by simp[intOf];omega⟩
  ·have j1: ¬(k:Int)< (ls.length:Int):=by omega
   have y5:Hid (s=Ea ls n c l):=O (by rw[HS.o,N2 (by omega)]);clear HS;go_wp2_with fail;go_ret;exact⟨by rw[←y5.o];rfl,m9.o.Y ht⟩
def Eb (ls:List Q5)(l:List Cx)(r:Q4):Bool:=decide (I4 l r.a≠0∧r.c≤I4 l r.a∧I4 l r.a≤r.d∧r.b<Ea ls r.a (I4 l r.a) l)
theorem jG (VD VP VL VC v:Value)(ls:List Q5)(x:Q4)(l:List Cx)(w:World)(hL:o5 w VL ls)(hv:Q0 w v l)(hw: ∀x∈ls,0≤x.c∧x.c≤1073741824)(T3:ls.length≤100000)(fD: ∃A n c,VD= .slice A n c)(fP: ∃A n c,VP= .slice A n c)(fC: ∃A n c,VC= .slice A n c):Calls Tryz.prog 96 #[.agg #[VD,VP,VL,VC],.agg #[.int .i64 x.a,.int .i64 x.b,.int .i64 x.c,.int .i64 x.d],v] w fun r w'=>r= .returned (.bool (Eb ls l x))∧z6 [] w w':=by
 obtain⟨AD,nD,cD,rfl⟩:=fD;obtain⟨AP,nP,cP,rfl⟩:=fP;obtain⟨AC,nC,cC,rfl⟩:=fC;obtain⟨xa,xb,xc,xd⟩:=x;have HO:=p7 (fun W t=>Ud v l xa W (hv.q8 t));have HL:=p7 (fun W t=>MI (.slice AD nD cD) (.slice AP nP cP) VL (.slice AC nC cC) v ls xa (I4 l xa) l W (hL.q8 t) (hv.q8 t) hw T3);unfold Eb;simp only;obtain⟨AL,cL,rfl⟩:=hL.form;obtain⟨A,cap,rfl⟩:=hv.form;generalize I4 l xa=z at*;generalize Ea ls xa z l=lz at*;clear hL hv hw T3;generalize ls.length=nL at*;generalize Cp:decide (z≠0∧xc≤z∧z≤xd∧xb<lz)=n9;have HS:=O Cp;clear Cp;have b0:=(j4.new w 29 #[.slice AD nD cD,.slice AP nP cP,.slice AL nL cL,.slice AC nC cC]).alloc (.cells #[.int .i64 xa,.int .i64 xb,.int .i64 xc,.int .i64 xd] 83);have b1:=j4.new (w.alloc (.cells #[.slice AD nD cD,.slice AP nP cP,.slice AL nL cL,.slice AC nC cC] 29)) 83 #[.int .i64 xa,.int .i64 xb,.int .i64 xc,.int .i64 xd];simp only[World.size_alloc]at b1;have o6:z6 [] w ((w.alloc (.cells #[.slice AD nD cD,.slice AP nP cP,.slice AL nL cL,.slice AC nC cC] 29)).alloc (.cells #[.int .i64 xa,.int .i64 xb,.int .i64 xc,.int .i64 xd] 83)):=((z8 [] w).alloc _).alloc _;go_enter Tryz.func96,Tryz.ntmps96;go_wp2_with fail;generalize El:(w.alloc _).alloc _=w0 at*;clear El;generalize w.heap.size=g at*;refine(HO.o _ o6).mono ?_;rintro r w1 ⟨rfl,t1⟩;have HK:Hid (∀W',z6 [] w1 W'→(W'.cell? ⟨g,0,none⟩=some (.slice AD nD cD)∧W'.cell? ⟨g,1,none⟩=some (.slice AP nP cP)∧W'.cell? ⟨g,2,none⟩=some (.slice AL nL cL)∧W'.cell? ⟨g,3,none⟩=some (.slice AC nC cC))∧W'.cell? ⟨g+1,0,none⟩=some (.int .i64 xa)∧W'.cell? ⟨g+1,1,none⟩=some (.int .i64 xb)∧W'.cell? ⟨g+1,2,none⟩=some (.int .i64 xc)∧W'.cell? ⟨g+1,3,none⟩=some (.int .i64 xd)):=O (fun W' t=>⟨(b0.z7 (t1.Y t) (by simp)).F2,(b1.z7 (t1.Y t) (by simp)).F2⟩);have J6:=O (o6.Y t1);clear o6 t1 b0 b1 HO;obtain⟨⟨p0,p1,p2,p3⟩,k0,k1,k2,k3⟩:=HK.o w1 (z8 _ _);by_cases hz:z=0
 ·have y5:Hid (n9=false):=O (by rw[←HS.o];exact v8 (by omega));subst hz;go_wp2_with fail;go_quiet (fail);go_wp2_with fail;go_ret;exact⟨v9 (by rw[y5.o]),J6.o.drewN _⟩
 have aX:(z !=0)=true:=by simpa using hz
 by_cases h1:xc≤z;rotate_left
 ·have y5:Hid (n9=false):=O (by rw[←HS.o];exact v8 (by omega));have d1:decide (xc≤z)=false:=v8 h1;go_wp2_with fail;go_quiet (fail);go_wp2_with fail;go_ret;exact⟨v9 (by rw[y5.o]),J6.o.drewN _⟩
 have d1:decide (xc≤z)=true:=b_ h1;by_cases h2:z≤xd;rotate_left
 ·have y5:Hid (n9=false):=O (by rw[←HS.o];exact v8 (by omega));have d2:decide (z≤xd)=false:=v8 h2;go_wp2_with fail;go_quiet (fail);go_wp2_with fail;go_ret;exact⟨v9 (by rw[y5.o]),J6.o.drewN _⟩
 have d2:decide (z≤xd)=true:=b_ h2;have y5:Hid (decide (xb<lz)=n9):=O (by rw[←HS.o,decide_eq_decide];omega);clear p0 p1 p2 p3 k0 k1 k2 k3;have hQ:=z8 [] w1;go_wp2_with fail
 go_region_held3 (fun W'=>(W'.cell? ⟨g,0,none⟩=some (.slice AD nD cD)∧W'.cell? ⟨g,1,none⟩=some (.slice AP nP cP)∧W'.cell? ⟨g,2,none⟩=some (.slice AL nL cL)∧W'.cell? ⟨g,3,none⟩=some (.slice AC nC cC))∧W'.cell? ⟨g+1,0,none⟩=some (.int .i64 xa)∧W'.cell? ⟨g+1,1,none⟩=some (.int .i64 xb)∧W'.cell? ⟨g+1,2,none⟩=some (.int .i64 xc)∧W'.cell? ⟨g+1,3,none⟩=some (.int .i64 xd)) (first | exact HK.o _ hQ | exact HK.o _ hQ.drew) (first
  | (go_at_call 136;with_reducible refine(HL.o _ (J6.o.Y hQ.drew)).mono ?_;rintro r w2 ⟨rfl,V4⟩;(try dsimp only);replace hQ:=hQ.drew.Y V4;clear V4))
 have Q8:=O (J6.o.Y hQ);clear hQ HK HL;go_wp2_with fail;go_ret;exact⟨v9 (by rw[←y5.o]),Q8.o⟩
def Gh (l:List Cx)(d:Dx):Bool:=decide (I4 l d.st≠0)&&d.ch.contains (I4 l d.st)
def B5 (p:Px)(l:List Cx):Bool:=p.D.all (Gh l)&&(l.all (fun c=>y8 p c.a)&&(p.R.P.all (fun r=> !A9 l r)&&p.R.C.all (fun r=> !Eb p.R.L l r)))
theorem B7 {good:α→Bool}{l:List α}(hk:k<l.length)(h:good l[k]=false):l.all good=false:=by
 rw[kK];exact⟨l[k],k8 hk,by simp[h]⟩
theorem On (h:J5 p=true): ∀x∈p.R.L,0≤x.c∧x.c≤1073741824:=fun x hx=>by
 unfold J5 V1 at h;simp only[p9]at h;have h1:=(Z6.1 h.2.1.2.2.2.2.1) x hx;unfold W9 Jd at h1;simp only[p9,E0]at h1;omega
theorem dV (h:J5 p=true): ∀x∈p.R.P,-1≤x.c∧x.c≤1:=fun x hx=>by
 unfold J5 V1 at h;simp only[p9]at h;have h1:=(Z6.1 h.2.1.2.1) x hx;unfold W8 Jd at h1;simp only[p9,E0]at h1;omega
def aU (ok:Bool)(w:World)(r:Ending)(w':World):Prop:= ∃k i:Int,r= .returned (.agg #[.int .i64 k,.int .i64 i])∧(ok=true→k=0∧i=0)∧(ok=false→k≠0)∧z6 [] w w'
def C9 (good:α→Bool)(w0:World)(l:List α)(ti:Value)(wr:World):Prop:= ∃k:Nat,k≤l.length∧ti= .int .i64 (k:Int)∧z6 [] w0 wr∧Hid (∀(j:Nat) x,j<k→l[j]? =some x→good x=true)
theorem U8 {good:α→Bool}{l:List α}(h: ∀(j:Nat) x,j<k→l[j]? =some x→good x=true)(hk:l.length≤k):l.all good=true:=Z6.2 (fun x hx=>by
 obtain⟨j,hj⟩:=Gk hx
 exact h j x (by have:=(U4.1 hj).1;omega) hj)
theorem X7 {good:α→Bool}{l:List α}(h: ∀(j:Nat) x,j<k→l[j]? =some x→good x=true)(hk:k<l.length)(hg:good l[k]=true): ∀(j:Nat) x,j<k+1→l[j]? =some x→good x=true:=fun j x hj hx=>by
 by_cases h2:j<k
 ·exact h j x h2 hx
 ·obtain rfl:j=k:=by omega
  rw[j6 hk]at hx;injection hx with hx;rw[←hx];exact hg
theorem Df (p:Px)(n:Int):y8 p n=decide (0≤L2 p.D n):=by
 unfold y8 L2 l5
 cases e:p.D.findIdx? (fun d=>d.st==n)with
 | none=>
  rw[tF]at e
  have:(p.D.map Dx.st).contains n=false:=by
   rw[List.contains_eq_any_beq,tH];intro x hx;obtain⟨d,hd,rfl⟩:=F4.1 hx;have:=e d hd;simp at this⊢;exact fun h=>this h.symm
  rw[this];rfl
 | some i=>
  obtain⟨h2,h3,-⟩:=tE.1 e
  have:(p.D.map Dx.st).contains n=true:=by
   rw[List.contains_iff_mem];have h4:p.D[i].st=n:=by simpa using h3
   rw[←h4];exact kF (k8 h2)
  rw[this];simp
theorem AW (p:Px)(VD VP VL VC v:Value)(l:List Cx)(w:World)(h:K3 w VD VP VL VC p)(hv:Q0 w v l)(V5:P0 p)(T3:l.length≤100000)(J3:J5 p=true)(PS: ∀y∈l,0≤y.b∧y.b≤1000):Calls Tryz.prog 56 #[.agg #[VD,VP,VL,VC],v,.bool true] w (aU (B5 p l) w):=by
 have WJ:=On J3;have WG:=dV J3;have St:=O (fun(W:World) (t:z6 [] w W) (n:Int)=>Ud v l n W (hv.q8 t));have aB:=O (fun(W:World) (t:z6 [] w W) (n:Int)=>Py VD VP VL VC p.D n W (h.d.q8 t));have jT:=O (fun(W:World) (t:z6 [] w W) (x:Q5) (hx:x∈p.R.P)=>gL x v l W (hv.q8 t) (WG x hx) PS);have HBC:=O (fun(W:World) (t:z6 [] w W) (x:Q4)=>jG VD VP VL VC v p.R.L x l W (h.ld.q8 t) (hv.q8 t) WJ V5.ld (by obtain⟨A,c,e,-⟩:=h.d.form;exact⟨_,_,_,e⟩) (by obtain⟨A,c,e⟩:=h.pr.form;exact⟨_,_,_,e⟩) (by obtain⟨A,c,e⟩:=h.cp.form;exact⟨_,_,_,e⟩));have Bb:=p7 (fun W t=>h.q8 t);have qO:=p7 (fun W t=>hv.q8 t);have hBd:p.D.all (Gh l)=false→B5 p l=false:=fun e=>by unfold B5;simp[e]
 have hBf:l.all (fun c=>y8 p c.a)=false→B5 p l=false:=fun e=>by unfold B5;simp[e]
 have hBp:p.R.P.all (fun r=> !A9 l r)=false→B5 p l=false:=fun e=>by unfold B5;simp[e]
 have hBc:p.R.C.all (fun r=> !Eb p.R.L l r)=false→B5 p l=false:=fun e=>by unfold B5;simp[e]
 have hOk:p.D.all (Gh l)=true→l.all (fun c=>y8 p c.a)=true→p.R.P.all (fun r=> !A9 l r)=true→p.R.C.all (fun r=> !Eb p.R.L l r)=true→B5 p l=true:=fun e1 e2 e3 e4=>by unfold B5;rw[e1,e2,e3,e4];rfl
 have HBd:=O hBd;have HBf:=O hBf;have HBp:=O hBp;have HBc:=O hBc;have qP:=O hOk;clear hBd hBf hBp hBc hOk WJ WG;obtain⟨AD,cD,rfl,-,-⟩:=h.d.form;obtain⟨AP,cP,rfl⟩:=h.pr.form;obtain⟨AL,cL,rfl⟩:=h.ld.form;obtain⟨AC,cC,rfl⟩:=h.cp.form;obtain⟨A,cap,rfl⟩:=hv.form;clear h hv PS J3;generalize B5 p l=n9 at*;have b0:=(j4.new w 29 #[.slice AD p.D.length cD,.slice AP p.R.P.length cP,.slice AL p.R.L.length cL,.slice AC p.R.C.length cC]).alloc (.cells #[.int .i64 0,.int .i64 0] 62);have b1:=j4.new (w.alloc (.cells #[.slice AD p.D.length cD,.slice AP p.R.P.length cP,.slice AL p.R.L.length cL,.slice AC p.R.C.length cC] 29)) 62 #[.int .i64 0,.int .i64 0];simp only[World.size_alloc]at b1;have o6:z6 [] w ((w.alloc (.cells #[.slice AD p.D.length cD,.slice AP p.R.P.length cP,.slice AL p.R.L.length cL,.slice AC p.R.C.length cC] 29)).alloc (.cells #[.int .i64 0,.int .i64 0] 62)):=((z8 [] w).alloc _).alloc _;have hlD:=V5.d;have hlP:=V5.pr;have hlC:=V5.cp;go_enter Tryz.func56,Tryz.ntmps56;go_wp2_with fail;generalize El:(w.alloc _).alloc _=w0 at*;clear El;obtain⟨g,hg⟩: ∃g,g=w.heap.size:=⟨_,rfl⟩;rw[←hg]at b0 b1⊢;have HG:=O hg;have HK:Hid (∀W',z6 [] w0 W'→W'.cell? ⟨g,0,none⟩=some (.slice AD p.D.length cD)∧W'.cell? ⟨g,1,none⟩=some (.slice AP p.R.P.length cP)∧W'.cell? ⟨g,2,none⟩=some (.slice AL p.R.L.length cL)∧W'.cell? ⟨g,3,none⟩=some (.slice AC p.R.C.length cC)):=O (fun W' t=>(b0.z7 t (by simp)).F2);have Ag:=O b1;have m9:=O o6;have D6:=O (z8 [] w0);clear hg b0 b1 o6;go_loopw [7] (fun ti wr=>C9 (Gh l) w0 p.D ti wr) (fun ti _=>p.D.length - (intOf ti).toNat)
 case atStart=>exact⟨0,by omega,rfl,D6.o,O (fun j x h=>by omega)⟩
 case round=>
  clear D6;obtain⟨k,hk,rfl,ht,HX⟩:=hrel;obtain⟨r0,r1,r2,r3⟩:=HK.o wr ht;by_cases Z:k<p.D.length
  ·have j1:(k:Int)< (p.D.length:Int):=by omega
   have T2:=Bb.o wr (m9.o.Y ht);obtain⟨b,off,c,rfl,hb,-,N0⟩:=T2.d.at_ Z;obtain⟨ca,cb,B8⟩:=N0 wr (z8 _ _);obtain⟨A2,X2,rfl⟩:=B8.form;have HHO:=O (St.o wr (m9.o.Y ht) p.D[k].st);have HRH:=O (fun(W:World) (t:z6 [] wr W) (n:Int)=>Gx _ _ n W (B8.q8 t));have HCW:Hid (∀W',z6 [] wr W'→W'.cell? ⟨b,off+k*2+1,none⟩=some (.slice A2 p.D[k].ch.length X2)):=O (fun W' t=>(N0 W' t).2.1);have D7:Hid (Gh l p.D[k]=false→n9=false):=O (fun e=>HBd.o (B7 Z e));have I5:Hid (Gh l p.D[k]=true→ ∀(j:Nat) x,j<k+1→p.D[j]? =some x→Gh l x=true):=O (fun e=>X7 HX.o Z e);clear T2 HX N0 B8;unfold Gh at D7 I5;generalize p.D[k]=d at*;obtain⟨st,ch⟩:=d;simp only at*;generalize I4 l st=z at*;have HT:=O ht;clear ht;go_wp2_with fail;refine HHO.o.mono ?_;rintro r w2 ⟨rfl,t2⟩;have Q8:=O (HT.o.Y t2);obtain⟨r0,r1,r2,r3⟩:=HK.o _ Q8.o;have cb2:=HCW.o _ t2;by_cases hz:z=0
   ·have y5:=O (D7.o (by simp[hz]));subst hz;have b9:=Ag.o.z7 (Q8.o) (by simp);have wo:_=some _:=(b9.cell 0).trans rfl;have wi:_=some _:=(b9.cell 1).trans rfl;have f90:=b9.frozen 0;have f91:=b9.frozen 1;have Kw:=O b9;have Bq:=O (Q8.o);clear b9;go_wp2_with fail;have Ss:=(Kw.o.V8 0 (.int .i64 1)).V8 1 (.int .i64 (k:Int));refine bodyPost_ret (results_cell_row rfl _ _ (g+1) 62 #[.int .i64 1,.int .i64 (k:Int)] (0,0) _ rfl Ss Tryz.underlying62 rfl (by kernel_rfl)) rfl ⟨1,k,rfl,fun e=>(by rw[y5.o]at e;cases e),fun _=>(by decide),((m9.o.Y Bq.o).setCell (p:=⟨g+1,0,none⟩) (.inr (by have:=HG.o;show w.heap.size≤g+1;omega)) _).setCell (p:=⟨g+1,1,none⟩) (.inr (by have:=HG.o;show w.heap.size≤g+1;omega)) _⟩
   ·have aX:(z==0)=false:=by simpa using hz
    have Vp:(z !=0)=true:=by simpa using hz
    have HRQ:=O (HRH.o w2 t2 z);generalize OI:ch.contains z=q at*
    cases q with
    | false=>
     have y5:=O (D7.o (by simp));go_wp2_with fail;refine HRQ.o.mono ?_;rintro r w3 ⟨rfl,t3⟩;have b9:=Ag.o.z7 (Q8.o.Y t3) (by simp);have wo:_=some _:=(b9.cell 0).trans rfl;have wi:_=some _:=(b9.cell 1).trans rfl;have f90:=b9.frozen 0;have f91:=b9.frozen 1;have Kw:=O b9;have Bq:=O (Q8.o.Y t3);clear b9;go_wp2_with fail;have Ss:=(Kw.o.V8 0 (.int .i64 1)).V8 1 (.int .i64 (k:Int));refine bodyPost_ret (results_cell_row rfl _ _ (g+1) 62 #[.int .i64 1,.int .i64 (k:Int)] (0,0) _ rfl Ss Tryz.underlying62 rfl (by kernel_rfl)) rfl ⟨1,k,rfl,fun e=>(by rw[y5.o]at e;cases e),fun _=>(by decide),((m9.o.Y Bq.o).setCell (p:=⟨g+1,0,none⟩) (.inr (by have:=HG.o;show w.heap.size≤g+1;omega)) _).setCell (p:=⟨g+1,1,none⟩) (.inr (by have:=HG.o;show w.heap.size≤g+1;omega)) _⟩
    | true=>
     have W7:=O (I5.o (by simp[hz]));go_wp2_with fail;refine HRQ.o.mono ?_;rintro r w3 ⟨rfl,t3⟩;go_wp2_with fail;go_roundw
     case rel=>exact⟨k+1,by omega,by go_num,Q8.o.Y t3,W7⟩
     case measure=>simp[intOf];omega
  ·have j1: ¬(k:Int)< (p.D.length:Int):=by omega
   have HDd:=O (U8 HX.o (by omega));have D6:=O ht;clear HX ht;go_wp2_with fail;clear r0 r1 r2 r3;go_loopw [9] (fun ti wr=>C9 (fun c:Cx=>y8 p c.a) w0 l ti wr) (fun ti _=>l.length - (intOf ti).toNat)
   case atStart=>exact⟨0,by omega,rfl,D6.o,O (fun j x h=>by omega)⟩
   case round=>
    clear D6;obtain⟨k,hk,rfl,ht,HX⟩:=hrel;obtain⟨r0,r1,r2,r3⟩:=HK.o wr ht;by_cases Z:k<l.length
    ·have j1:(k:Int)< (l.length:Int):=by omega
     have T2:=Bb.o wr (m9.o.Y ht);have qJ:=qO.o wr (m9.o.Y ht);obtain⟨b,off,rfl,hb⟩:=qJ.addr Z;obtain⟨ca,cb⟩:=Q0.at_ qJ Z;have HHF:=p7 (fun W t=>aB.o W t l[k].a);have hfh:=Df p l[k].a;have D7:Hid (y8 p l[k].a=false→n9=false):=O (fun e=>HBf.o (B7 (good:=fun c:Cx=>y8 p c.a) Z e));have I5:Hid (y8 p l[k].a=true→ ∀(j:Nat) (x:Cx),j<k+1→l[j]? =some x→y8 p x.a=true):=O (fun e=>X7 (good:=fun c:Cx=>y8 p c.a) HX.o Z e);clear T2 HX qJ;generalize y8 p l[k].a=q at*;generalize L2 p.D l[k].a=z at*;generalize l[k].a=xa at*;have hQ:=z8 [] wr;have X_:Hid (∀W',z6 [] wr W'→(W'.cell? ⟨g,0,none⟩=some (.slice AD p.D.length cD)∧W'.cell? ⟨g,1,none⟩=some (.slice AP p.R.P.length cP)∧W'.cell? ⟨g,2,none⟩=some (.slice AL p.R.L.length cL)∧W'.cell? ⟨g,3,none⟩=some (.slice AC p.R.C.length cC))∧W'.cell? ⟨b,off+k*2,none⟩=some (.int .i64 xa)):=O (fun W' t=>⟨HK.o W' (ht.Y t),(t.cell (p:=⟨b,off+k*2,none⟩) hb (by simp)).trans ca⟩);have HT:=O ht;clear ht;go_wp2_with fail;clear r0 r1 r2 r3 ca cb
     go_region_held3 (fun W'=>(W'.cell? ⟨g,0,none⟩=some (.slice AD p.D.length cD)∧W'.cell? ⟨g,1,none⟩=some (.slice AP p.R.P.length cP)∧W'.cell? ⟨g,2,none⟩=some (.slice AL p.R.L.length cL)∧W'.cell? ⟨g,3,none⟩=some (.slice AC p.R.C.length cC))∧W'.cell? ⟨b,off+k*2,none⟩=some (.int .i64 xa)) (first | exact X_.o _ hQ | exact X_.o _ hQ.drew) (first
      | (go_at_call 26;with_reducible refine(HHF.o _ (m9.o.Y (HT.o.Y hQ.drew))).mono ?_;rintro r w2 ⟨rfl,V4⟩;(try dsimp only);replace hQ:=hQ.drew.Y V4;clear V4))
     have Q8:=O (HT.o.Y hQ);clear hQ X_ HHF
     cases q with
     | false=>
      have y5:=O (D7.o (by trivial));have hz:z<0:=by have:=Gt hfh.symm;omega
      have b9:=Ag.o.z7 (Q8.o) (by simp);have wo:_=some _:=(b9.cell 0).trans rfl;have wi:_=some _:=(b9.cell 1).trans rfl;have f90:=b9.frozen 0;have f91:=b9.frozen 1;have Kw:=O b9;have Bq:=O (Q8.o);clear b9;go_wp2_with fail;have Ss:=(Kw.o.V8 0 (.int .i64 2)).V8 1 (.int .i64 (k:Int));refine bodyPost_ret (results_cell_row rfl _ _ (g+1) 62 #[.int .i64 2,.int .i64 (k:Int)] (0,0) _ rfl Ss Tryz.underlying62 rfl (by kernel_rfl)) rfl ⟨2,k,rfl,fun e=>(by rw[y5.o]at e;cases e),fun _=>(by decide),((m9.o.Y Bq.o).setCell (p:=⟨g+1,0,none⟩) (.inr (by have:=HG.o;show w.heap.size≤g+1;omega)) _).setCell (p:=⟨g+1,1,none⟩) (.inr (by have:=HG.o;show w.heap.size≤g+1;omega)) _⟩
     | true=>
      have W7:=O (I5.o (by trivial));have hz: ¬z<0:=by have:=U9 hfh.symm;omega
      go_wp2_with fail;go_roundw
      case rel=>exact⟨k+1,by omega,by go_num,Q8.o,W7⟩
      case measure=>simp[intOf];omega
    ·have j1: ¬(k:Int)< (l.length:Int):=by omega
     have HDf:=O (U8 HX.o (by omega));have D6:=O ht;clear HX ht;go_wp2_with fail;clear r0 r1 r2 r3;go_loopw [10] (fun ti wr=>C9 (fun r:Q5=> !A9 l r) w0 p.R.P ti wr) (fun ti _=>p.R.P.length - (intOf ti).toNat)
     case atStart=>exact⟨0,by omega,rfl,D6.o,O (fun j x h=>by omega)⟩
     case round=>
      clear D6;obtain⟨k,hk,rfl,ht,HX⟩:=hrel;obtain⟨r0,r1,r2,r3⟩:=HK.o wr ht;by_cases Z:k<p.R.P.length
      ·have j1:(k:Int)< (p.R.P.length:Int):=by omega
       have T2:=Bb.o wr (m9.o.Y ht);obtain⟨b,off,rfl,hb⟩:=T2.pr.addr Z;obtain⟨ca,cb,cc,cd,ce⟩:=o5.at_ T2.pr Z;have HHP:=O (jT.o wr (m9.o.Y ht) p.R.P[k] (k8 Z));have D7:Hid (A9 l p.R.P[k]=true→n9=false):=O (fun e=>HBp.o (B7 Z (by simp[e])));have I5:Hid (A9 l p.R.P[k]=false→ ∀(j:Nat) x,j<k+1→p.R.P[j]? =some x→(!A9 l x)=true):=O (fun e=>X7 HX.o Z (by simp[e]));clear T2 HX;generalize A9 l p.R.P[k]=q at*;generalize p.R.P[k]=x at*;have HT:=O ht;clear ht;go_wp2_with fail;refine HHP.o.mono ?_;rintro r w2 ⟨rfl,t2⟩;have Q8:=O (HT.o.Y t2);clear t2
       cases q with
       | true=>
        have y5:=O (D7.o (by trivial));have b9:=Ag.o.z7 (Q8.o) (by simp);have wo:_=some _:=(b9.cell 0).trans rfl;have wi:_=some _:=(b9.cell 1).trans rfl;have f90:=b9.frozen 0;have f91:=b9.frozen 1;have Kw:=O b9;have Bq:=O (Q8.o);clear b9;go_wp2_with fail;have Ss:=(Kw.o.V8 0 (.int .i64 3)).V8 1 (.int .i64 (k:Int));refine bodyPost_ret (results_cell_row rfl _ _ (g+1) 62 #[.int .i64 3,.int .i64 (k:Int)] (0,0) _ rfl Ss Tryz.underlying62 rfl (by kernel_rfl)) rfl ⟨3,k,rfl,fun e=>(by rw[y5.o]at e;cases e),fun _=>(by decide),((m9.o.Y Bq.o).setCell (p:=⟨g+1,0,none⟩) (.inr (by have:=HG.o;show w.heap.size≤g+1;omega)) _).setCell (p:=⟨g+1,1,none⟩) (.inr (by have:=HG.o;show w.heap.size≤g+1;omega)) _⟩
       | false=>
        have W7:=O (I5.o (by trivial));go_wp2_with fail;go_roundw
        case rel=>exact⟨k+1,by omega,by go_num,Q8.o,W7⟩
        case measure=>simp[intOf];omega
      ·have j1: ¬(k:Int)< (p.R.P.length:Int):=by omega
       have HDp:=O (U8 HX.o (by omega));have D6:=O ht;clear HX ht;go_wp2_with fail;clear r0 r1 r2 r3;go_loopw [11] (fun ti wr=>C9 (fun r:Q4=> !Eb p.R.L l r) w0 p.R.C ti wr) (fun ti _=>p.R.C.length - (intOf ti).toNat)
       case atStart=>exact⟨0,by omega,rfl,D6.o,O (fun j x h=>by omega)⟩
       case round=>
        clear D6;obtain⟨k,hk,rfl,ht,HX⟩:=hrel;obtain⟨r0,r1,r2,r3⟩:=HK.o wr ht;by_cases Z:k<p.R.C.length
        ·have j1:(k:Int)< (p.R.C.length:Int):=by omega
         have T2:=Bb.o wr (m9.o.Y ht);obtain⟨b,off,rfl,hb⟩:=T2.cp.addr Z;obtain⟨ca,cb,cc,cd⟩:=T9.at_ T2.cp Z;have HHC:=p7 (fun W t=>HBC.o W t p.R.C[k]);have D7:Hid (Eb p.R.L l p.R.C[k]=true→n9=false):=O (fun e=>HBc.o (B7 Z (by simp[e])));have I5:Hid (Eb p.R.L l p.R.C[k]=false→ ∀(j:Nat) x,j<k+1→p.R.C[j]? =some x→(!Eb p.R.L l x)=true):=O (fun e=>X7 HX.o Z (by simp[e]));clear T2 HX;generalize Eb p.R.L l p.R.C[k]=q at*;generalize p.R.C[k]=x at*;obtain⟨xa,xb,xc,xd⟩:=x;simp only at ca cb cc cd HHC;have hQ:=z8 [] wr;have X_:Hid (∀W',z6 [] wr W'→(W'.cell? ⟨g,0,none⟩=some (.slice AD p.D.length cD)∧W'.cell? ⟨g,1,none⟩=some (.slice AP p.R.P.length cP)∧W'.cell? ⟨g,2,none⟩=some (.slice AL p.R.L.length cL)∧W'.cell? ⟨g,3,none⟩=some (.slice (some ⟨b,off,none⟩) p.R.C.length cC))∧W'.cell? ⟨b,off+k*4,none⟩=some (.int .i64 xa)∧W'.cell? ⟨b,off+k*4+1,none⟩=some (.int .i64 xb)∧W'.cell? ⟨b,off+k*4+1+1,none⟩=some (.int .i64 xc)∧W'.cell? ⟨b,off+k*4+1+1+1,none⟩=some (.int .i64 xd)):=O (fun W' t=>⟨HK.o W' (ht.Y t),(t.cell (p:=⟨b,off+k*4,none⟩) hb (by simp)).trans ca,(t.cell (p:=⟨b,off+k*4+1,none⟩) hb (by simp)).trans cb,(t.cell (p:=⟨b,off+k*4+1+1,none⟩) hb (by simp)).trans cc,(t.cell (p:=⟨b,off+k*4+1+1+1,none⟩) hb (by simp)).trans cd⟩);have HT:=O ht;clear ht;go_wp2_with fail;clear r0 r1 r2 r3 ca cb cc cd
         go_region_held3 (fun W'=>(W'.cell? ⟨g,0,none⟩=some (.slice AD p.D.length cD)∧W'.cell? ⟨g,1,none⟩=some (.slice AP p.R.P.length cP)∧W'.cell? ⟨g,2,none⟩=some (.slice AL p.R.L.length cL)∧W'.cell? ⟨g,3,none⟩=some (.slice (some ⟨b,off,none⟩) p.R.C.length cC))∧W'.cell? ⟨b,off+k*4,none⟩=some (.int .i64 xa)∧W'.cell? ⟨b,off+k*4+1,none⟩=some (.int .i64 xb)∧W'.cell? ⟨b,off+k*4+1+1,none⟩=some (.int .i64 xc)∧W'.cell? ⟨b,off+k*4+1+1+1,none⟩=some (.int .i64 xd)) (first | exact X_.o _ hQ | exact X_.o _ hQ.drew) (first
          | (go_at_call 96;with_reducible refine(HHC.o _ (m9.o.Y (HT.o.Y hQ.drew))).mono ?_;rintro r w2 ⟨rfl,V4⟩;(try dsimp only);replace hQ:=hQ.drew.Y V4;clear V4))
         have Q8:=O (HT.o.Y hQ);clear hQ X_ HHC
         cases q with
         | true=>
          have y5:=O (D7.o (by trivial));have b9:=Ag.o.z7 (Q8.o) (by simp);have wo:_=some _:=(b9.cell 0).trans rfl;have wi:_=some _:=(b9.cell 1).trans rfl;have f90:=b9.frozen 0;have f91:=b9.frozen 1;have Kw:=O b9;have Bq:=O (Q8.o);clear b9;go_wp2_with fail;have Ss:=(Kw.o.V8 0 (.int .i64 4)).V8 1 (.int .i64 (k:Int));refine bodyPost_ret (results_cell_row rfl _ _ (g+1) 62 #[.int .i64 4,.int .i64 (k:Int)] (0,0) _ rfl Ss Tryz.underlying62 rfl (by kernel_rfl)) rfl ⟨4,k,rfl,fun e=>(by rw[y5.o]at e;cases e),fun _=>(by decide),((m9.o.Y Bq.o).setCell (p:=⟨g+1,0,none⟩) (.inr (by have:=HG.o;show w.heap.size≤g+1;omega)) _).setCell (p:=⟨g+1,1,none⟩) (.inr (by have:=HG.o;show w.heap.size≤g+1;omega)) _⟩
         | false=>
          have W7:=O (I5.o (by trivial));go_wp2_with fail;go_roundw
          case rel=>exact⟨k+1,by omega,by go_num,Q8.o,W7⟩
          case measure=>simp[intOf];omega
        ·have j1: ¬(k:Int)< (p.R.C.length:Int):=by omega
         have HDc:=O (U8 HX.o (by omega));have D6:=O ht;clear HX ht;have y5:=O (qP.o HDd.o HDf.o HDp.o HDc.o);have b9:=Ag.o.z7 D6.o (by simp);have wo:_=some _:=(b9.cell 0).trans rfl;have wi:_=some _:=(b9.cell 1).trans rfl;have f90:=b9.frozen 0;have f91:=b9.frozen 1;have Kw:=O b9;clear b9;go_wp2_with fail;have Ss:=(Kw.o.V8 0 (.int .i64 0)).V8 1 (.int .i64 0);refine bodyPost_ret (results_cell_row rfl _ _ (g+1) 62 #[.int .i64 0,.int .i64 0] (0,0) _ rfl Ss Tryz.underlying62 rfl (by kernel_rfl)) rfl ⟨0,0,rfl,fun _=>⟨rfl,rfl⟩,fun e=>(by rw[y5.o]at e;cases e),((m9.o.Y D6.o).setCell (p:=⟨g+1,0,none⟩) (.inr (by have:=HG.o;show w.heap.size≤g+1;omega)) _).setCell (p:=⟨g+1,1,none⟩) (.inr (by have:=HG.o;show w.heap.size≤g+1;omega)) _⟩
end Go.Proofs.YtlhlmcohdkkjpaaGreatDoor
