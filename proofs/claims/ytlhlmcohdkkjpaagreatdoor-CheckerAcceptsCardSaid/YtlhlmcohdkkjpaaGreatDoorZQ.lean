/- Package propagate: capsOf: the channels on which a station would lose too much. -/
import Derived.Test.YtlhlmcohdkkjpaaGreatDoorZP
set_option linter.all false
set_option maxHeartbeats 8000000
set_option maxRecDepth 100000
namespace Go.Proofs.YtlhlmcohdkkjpaaGreatDoor
open Go.RowKit
def Iq (f:Nat→Int):Array Value:=((List.range 52).map (fun i=>Value.int .i64 (f i))).toArray
theorem Xn (f:Nat→Int):(Iq f).size=52:=by simp[Iq]
theorem aR (f:Nat→Int){i:Nat}(h:i<52):(Iq f)[i]? =some (.int .i64 (f i)):=by simp[Iq,h]
theorem NP (f:Nat→Int){a:Nat}(v:Int):(Iq f).setIfInBounds a (.int .i64 v)=Iq (fun i=>if i=a then v else f i):=by
 apply Array.ext_getElem?;intro i;rw[qd6];by_cases hi:i<52
 ·have e:=aR (fun i=>if i=a then v else f i) hi;rw[e];by_cases ha:a=i
  ·subst ha;rw[x9 rfl,x9 (by rw[Xn];exact hi),x9 rfl]
  ·rw[z9 ha,z9 (W5 ha),aR f hi]
 ·have h1: ∀g,(Iq g)[i]? =none:=fun g=>FU (by rw[Xn];omega);rw[h1,h1];split
  ·rw[z9 (by rw[Xn];omega)]
  ·rfl
theorem fX {f g:Nat→Int}(h: ∀i,i<52→f i=g i):Iq f=Iq g:=by
 have e:(List.range 52).map (fun i=>Value.int .i64 (f i))=(List.range 52).map (fun i=>Value.int .i64 (g i)):=kH (fun i hi=>by rw[h i (Gj.1 hi)]);exact congrArg List.toArray e
theorem qf7: ∀w,(zeroValue 350).run Tryz.prog w= .ok (.agg (Iq (fun _=>0))) w:=(zero_of_info (n:=52) (by kernel_rfl)).1
def Be (ms:List Nat)(l:List Q5)(i:Nat):Int:=C3 ms (-1) i l
variable{c f:Int}{ms:List Nat}{l:List Q5}{k g g0 nd:Nat}{P:Q4→Prop}
theorem fJ (hk:k<l.length):C3 ms f c (l.take (k+1))=C3 ms f c (l.take k)+P8 ms f c l[k]:=by
 unfold C3;rw[Cw hk,Yi,List.sum_append];simp
theorem LP {x:Q5}(h:0≤x.c∧x.c≤1073741824):0≤P8 ms f c x∧P8 ms f c x≤1073741824:=by
 unfold P8;split<;>omega
theorem dU {ms:List Nat}{f c:Int}: ∀(l:List Q5),(∀x∈l,0≤x.c∧x.c≤1073741824)→0≤C3 ms f c l∧C3 ms f c l≤1073741824*(l.length:Int)
 | [],_=>by simp[C3]
 | x::l,h=>by
  have h1:=LP (ms:=ms) (f:=f) (c:=c) (h x N3);have h2:=dU l (ms:=ms) (f:=f) (c:=c) (fun y hy=>h y (T8 _ hy));unfold C3 at h2⊢;rw[Bw,Hy,Cz];have e:(((l.length+1:Nat)):Int)=(l.length:Int)+1:=by omega
  rw[e];omega
theorem qp {b:Nat}(hk:k<l.length)(hb:l[k].b=(b:Int)){d:Nat}(hd:n7 (wd ms b)=(d:Int)):Iq (Be ms (l.take (k+1)))=if l[k].d≤(d:Int)∧(d:Int)≤l[k].e then Iq (fun i=>if i=d then Be ms (l.take k) d+l[k].c else Be ms (l.take k) i)else Iq (Be ms (l.take k)):=by
 have e: ∀i:Nat,Be ms (l.take (k+1)) i=Be ms (l.take k) i+(if l[k].d≤(i:Int)∧(i:Int)≤l[k].e∧i=d then l[k].c else 0):=fun i=>by
  unfold Be;rw[fJ hk]
  congr 1
  unfold P8;rw[hb,X4,hd];by_cases h:l[k].d≤(i:Int)∧(i:Int)≤l[k].e∧i=d
  ·rw[x9 h,x9 ⟨h.1,h.2.1,.inr (by omega)⟩]
  ·rw[z9 h,z9 (fun h2=>h ⟨h2.1,h2.2.1,by have:=h2.2.2;omega⟩)]
 split
 ·rename_i hc;refine fX (fun i hi=> ?_);rw[e];by_cases h:i=d
  ·subst h;rw[x9 rfl,x9 ⟨hc.1,hc.2,rfl⟩]
  ·rw[z9 h,z9 (fun h2=>h h2.2.2),Ub]
 ·rename_i hc;refine fX (fun i hi=> ?_);rw[e,z9,Ub];rintro⟨h1,h2,h3⟩;subst h3;exact hc ⟨h1,h2⟩
theorem Ow {α:Type}{f:α→Nat→Prop}{l:List α}{g2:Nat}(h:Gl f l k g)(hn: ∀j,g2.testBit j=true↔g.testBit j=true∨ ∃h:k<l.length,f l[k] j):Gl f l (k+1) g2:=fun j=>by
 rw[hn,h j];constructor
 ·rintro(⟨m,hm,h⟩ | h)
  ·exact⟨m,by omega,h⟩
  ·exact⟨k,by omega,h⟩
 ·rintro⟨m,hm,hx⟩;rcases Is.1 hm with h3 | h3
  ·exact .inl ⟨m,h3,hx⟩
  ·subst h3;exact .inr hx
def qx5 (w1:World)(gl:Nat)(ms:List Nat)(l:List Q5)(ti:Value)(wr:World):Prop:= ∃k:Nat,k≤l.length∧ti= .int .i64 k∧z6 [gl] w1 wr∧Hid (j4 wr gl 350 (Iq (Be ms (l.take k))))
def qy6 (w1:World)(P:Q4→Nat→Prop)(l:List Q4)(tg ti:Value)(wr:World):Prop:= ∃k:Nat,k≤l.length∧ti= .int .i64 k∧z6 [] w1 wr∧ ∃g:Nat,tg= .int .u64 g∧Gl P l k g
def qy3 (w1:World)(g0:Nat)(lo hi:Int)(P:Nat→Prop)(tg ti:Value)(wr:World):Prop:= ∃d:Nat,lo≤(d:Int)∧((d:Int)≤hi+1∨(d:Int)=lo)∧ti= .int .i64 d∧z6 [] w1 wr∧ ∃g:Nat,tg= .int .u64 g∧ ∀j:Nat,g.testBit j=true↔g0.testBit j=true∨(lo≤(j:Int)∧j<d∧P j)
theorem ww (sp tb:Nat)(p:Px)(vs vp vc vi vf lv cv:Value)(ms:List Nat)(i:Nat)(w:World)(hp:j8 p)(R6:wY p)(hw:G5 p ms)(hi:i<p.D.length)(hT:Tg w tb p vs vp vc vi vf)(Ho:Y1 w)(hS:j4 w sp 305 #[.pointer (some ⟨tb,0,none⟩),lv,cv])(hL:LB w lv ms):Calls Tryz.prog 241 #[.pointer (some ⟨sp,0,none⟩),.int .i64 i] w fun r w'=> ∃g:Nat,r= .returned (.int .u64 g)∧(∀j,g.testBit j=true↔Cb p ms i j)∧z6 [] w w':=by
 have HS:=p7 (fun W t=>hS.z7 t (by simp));have St:=O (fun(W:World) (t:z6 [] w W) (k:Nat) (hk:k<p.D.length)=>Om sp (.pointer (some ⟨tb,0,none⟩)) cv lv ms k W (HS.o W t) (hL.q8 t) (by rw[hw.len];exact hk) (hw.bits k) (Ho.q8 t));have CY:=O (fun(k:Nat)=>Hf (hw.bits k));have WV:=p7 (fun W t=>hT.q8 t);obtain⟨Ac,cc,rfl⟩:=hT.rc.form;obtain⟨Ai,ci,rfl⟩:=hT.ri.form;obtain⟨bc,oc,uc,rfl,hbc,ec,rc⟩:=hT.rc.at_ (k:=i) (by rw[M6];exact hi);obtain⟨bi,oi,ui,rfl,hbi,ei,ri⟩:=hT.ri.at_ (k:=i) (by rw[M6];exact hi);rw[Rz]at rc ri;obtain⟨Bc,kc,rfl⟩:=rc.form;obtain⟨Bi,ki,rfl⟩:=ri.form;simp only[M6]at WV;have HC:=p7 (fun W t=>show(W.cell? ⟨sp,0,none⟩=some (.pointer (some ⟨tb,0,none⟩))∧W.cell? ⟨tb,515,none⟩=some (.slice (some ⟨bc,oc,none⟩) p.D.length cc)∧W.cell? ⟨tb,516,none⟩=some (.slice (some ⟨bi,oi,none⟩) p.D.length ci))∧W.cell? ⟨bc,oc+i,none⟩=some (.slice Bc (s9 p i).length kc)∧W.cell? ⟨bi,oi+i,none⟩=some (.slice Bi (a_ p i).length ki)from⟨⟨((HS.o W t).cell 0).trans rfl,(WV.o W t).cc,(WV.o W t).ci⟩,(t.cell (p:=⟨bc,oc+i,none⟩) hbc (by simp)).trans ec,(t.cell (p:=⟨bi,oi+i,none⟩) hbi (by simp)).trans ei⟩);have HRC:=p7 (fun W t=>rc.q8 t);have HRI:=p7 (fun W t=>ri.q8 t);have Xt:(i:Int)< (p.D.length:Int):=by omega
 have CM:(0:Int)≤(i:Int):=by omega
 have WK:=R6.Jf i;have hli:=R6.EX i
 have Xw:=O (fun(k:Nat) (d:Nat)=>(show 0≤Be ms ((a_ p i).take k) d∧Be ms ((a_ p i).take k) d≤107374182400000 by
  have h1:=dU (ms:=ms) (f:= -1) (c:=(d:Int)) ((a_ p i).take k) (fun x hx=>by
   obtain⟨b,-,-,-,-,-,-,g1,g2,-⟩:=Q2 hp (Qz hx)
   exact⟨by omega,g2⟩)
  have h2:((a_ p i).take k).length≤100000:=by rw[Y8];omega
  unfold Be
  omega))
 have GL:Hid (∀g,Gl (fun(y:Q4) (j:Nat)=>y.c≤(j:Int)∧(j:Int)≤y.d∧y.b<Be ms (a_ p i) j) (s9 p i) (s9 p i).length g→ ∀j,g.testBit j=true↔Cb p ms i j):=O (fun g h j=>by
  rw[h j,Od (l:=s9 p i) (a9 _) (P:=fun y=>y.c≤(j:Int)∧(j:Int)≤y.d∧y.b<Be ms (a_ p i) j)]
  exact Iff.rfl)
 have Xv:Hid (∀(k g:Nat),Gl (fun(y:Q4) (j:Nat)=>y.c≤(j:Int)∧(j:Int)≤y.d∧y.b<Be ms (a_ p i) j) (s9 p i) k g→g<18446744073709551616):=O (fun k g h=>Oe (fun j hj=>by
  obtain⟨m,-,hm,hb⟩:=(h j).1 hj;have:=D4 hp (k8 hm)
  omega))
 obtain⟨⟨c1,c2,c3⟩,c4,c5⟩:=HC.o w (z8 _ _);have hz:=qf7;clear hT hS hL rc ri hbc hbi ec ei hw;by_cases yC:(s9 p i).length=0
 ·have jM:(((s9 p i).length:Int)==0)=true:=by simpa using yC
  have hN:Hid (∀j,¬Cb p ms i j):=O (fun j ⟨y,hy,_⟩=>by
   rw[cR.1 yC]at hy
   cases hy)
  go_enter Tryz.func241,Tryz.ntmps241;go_wp2_with fail;go_ret;exact⟨0,rfl,fun j=>⟨fun h=>by simp at h,fun h=>absurd h (hN.o j)⟩,z8 _ _⟩
 have jM:(((s9 p i).length:Int)==0)=false:=by simpa using yC
 have c1':=Lib.cell?_alloc_some (.cells (Iq (fun _=>0)) 350) c1;have c3':=Lib.cell?_alloc_some (.cells (Iq (fun _=>0)) 350) c3;have c5':=Lib.cell?_alloc_some (.cells (Iq (fun _=>0)) 350) c5;have TA:=(z8 [] w).alloc (.cells (Iq (fun _=>0)) 350);have BA:=j4.new w 350 (Iq (fun _=>0));go_enter Tryz.func241,Tryz.ntmps241;go_wp2_with fail;clear c1 c2 c3 c4 c5 c1' c3' c5' hz;obtain⟨gl,Bo⟩: ∃gl,gl=w.heap.size:=⟨_,rfl⟩;rw[←Bo]at BA⊢;have bL:=O Bo;have V0:=O TA;have HBA:=O BA;clear TA BA Bo;generalize w.alloc _=w1 at*;have gS:=O (fun(W:World) (t:z6 [gl] w1 W)=>V0.o.step t (fun m hm=> .inr (by rw[y7]at hm;have:=bL.o;omega)));go_loopw [36] (fun ti wr=>qx5 w1 gl ms (a_ p i) ti wr) (fun ti _=>(a_ p i).length - (intOf ti).toNat)
 case atStart=>exact⟨0,by omega,rfl,z8 _ _,O (by have:Be ms ((a_ p i).take 0)=fun _=>0:=(by funext d;simp[Be,C3]);rw[this];exact HBA.o)⟩
 case round=>
  clear HBA;obtain⟨k,hk,rfl,ht,Hm⟩:=hrel;have TW:=O (gS.o wr ht);by_cases Z:k< (a_ p i).length
  ·have j1:(k:Int)< ((a_ p i).length:Int):=by omega
   have Z8:=HRI.o wr TW.o;obtain⟨b,off,rfl,hb⟩:=Z8.addr Z;obtain⟨d0,d1,d2,d3,d4⟩:=o5.at_ Z8 Z;obtain⟨a2,e1,e2,l1,l2,l3,l4,f1,f2,f3,f4⟩:=Q2 hp (k8 Z);obtain⟨R3,R4⟩:=CY.o a2;obtain⟨nd,Yz⟩:=K5 R3;have Q9:=O (qp Z e2 Yz);have HX:Hid (1≤(a_ p i)[k].c∧(a_ p i)[k].c≤1073741824):=O ⟨f1,f2⟩;have HLZ:=O (Xw.o k nd);have DH:=p7 (fun W t=>St.o W t a2 l2);rw[Yz]at DH R4;rw[e1]at d0;rw[e2]at d1;generalize (a_ p i)[k].c=xc at*;generalize (a_ p i)[k].d=xd at*;generalize (a_ p i)[k].e=xe at*;generalize Be ms ((a_ p i).take k)=F at*;have h52:(nd:Int)<52:=by omega
   have vw:(0:Int)≤(nd:Int):=by omega
   have zh7:Hid (nd<52):=O (by omega);have HT:=O (ht.alloc (.cells #[.int .i64 i,.int .i64 a2,.int .i64 xc,.int .i64 xd,.int .i64 xe] 81));have aC:=O (Hm.o.alloc (.cells #[.int .i64 i,.int .i64 a2,.int .i64 xc,.int .i64 xd,.int .i64 xe] 81));have BX:=j4.new wr 81 #[.int .i64 i,.int .i64 a2,.int .i64 xc,.int .i64 xd,.int .i64 xe];have q1:=(BX.cell 1).trans rfl;have QU:=O (DH.o _ (TW.o.alloc (.cells #[.int .i64 i,.int .i64 a2,.int .i64 xc,.int .i64 xd,.int .i64 xe] 81)));clear Z8 e1 e2 l1 l2 l3 l4 f1 f2 ht hk Yz Hm DH R3;go_wp2_with fail;refine QU.o.mono ?_;rintro r w2 ⟨rfl,t2⟩;have mR:=BX.z7 t2 (by simp);have q2:=(mR.cell 2).trans rfl;have q3:=(mR.cell 3).trans rfl;have q4:=(mR.cell 4).trans rfl;have O5:=O (aC.o.z7 t2 (by simp));have B4:=O (HT.o.Y t2);have g3:w2.cell? ⟨gl,nd,none⟩=some (.int .i64 (F nd)):=(O5.o.cell nd).trans (aR _ zh7.o);have g4:=O5.o.frozen nd;have g5:=O5.o.lt;clear BX mR q1 t2 aC HT QU d0 d1 d2 d3 d4 hb;generalize wr.heap.size=gx at*;by_cases Ad:xd≤(nd:Int);rotate_left
   ·go_wp2_with fail;exact⟨⟨k+1,Z,by go_num,B4.o,O (by rw[Q9.o,z9 (fun h=>by omega)];exact O5.o)⟩,by simp[intOf];omega⟩
   by_cases Cs:(nd:Int)≤xe;rotate_left
   ·go_wp2_with fail;exact⟨⟨k+1,Z,by go_num,B4.o,O (by rw[Q9.o,z9 (fun h=>by omega)];exact O5.o)⟩,by simp[intOf];omega⟩
   have hwr:IntKind.i64.wrap (F nd+xc)=F nd+xc:=IntWalk.i64_in _ (by have:=HLZ.o;have:=HX.o;omega);go_wp2_with fail;go_region_with (fail)
   all_goals
    have HE:Hid (z6 [gl] w1 ((w2.setCell ⟨gl,nd,none⟩ (.int .i64 (F nd+xc))).drew)∧j4 ((w2.setCell ⟨gl,nd,none⟩ (.int .i64 (F nd+xc))).drew) gl 350 (Iq (Be ms ((a_ p i).take (k+1))))):=O ⟨(B4.o.setCell (.inl (by simp)) _).drewN 1,by rw[Q9.o,x9 ⟨Ad,Cs⟩,←NP];exact(O5.o.V8 nd _).drew⟩;go_wp2_with fail;exact⟨⟨k+1,Z,by go_num,HE.o.1,O HE.o.2⟩,by simp[intOf];omega⟩
  ·have j1: ¬(k:Int)< ((a_ p i).length:Int):=by omega
   have EQ:Hid (j4 wr gl 350 (Iq (Be ms (a_ p i)))):=O (by
    have h:=Hm.o;rw[N2 (by omega)]at h
    exact h)
   obtain⟨⟨c1,c2,c3⟩,c4,c5⟩:=HC.o wr TW.o;clear ht Z hk Hm;go_wp2_with fail;clear c1 c2 c3 c4 c5;generalize wr=wz at*;generalize Be ms (a_ p i)=F at*;go_loopw [9,73] (fun tg ti wr=>qy6 wz (fun(y:Q4) (j:Nat)=>y.c≤(j:Int)∧(j:Int)≤y.d∧y.b<F j) (s9 p i) tg ti wr) (fun _ ti _=>(s9 p i).length - (intOf ti).toNat)
   case atStart=>exact⟨0,by omega,rfl,z8 _ _,0,rfl,fun j=>by simp⟩
   case round=>
    have TZ:=O TW.o;clear TW;obtain⟨k,hk,rfl,ht,g,rfl,Ep⟩:=hrel;by_cases Z:k< (s9 p i).length
    ·have j1:(k:Int)< ((s9 p i).length:Int):=by omega
     have Z8:=HRC.o wr (TZ.o.Y ht);obtain⟨b,off,rfl,hb⟩:=Z8.addr Z;obtain⟨d0,d1,d2,d3⟩:=T9.at_ Z8 Z;obtain⟨e1,e2,e3,e4,e5⟩:=D4 hp (k8 Z);have HG:Hid (∀j:Nat,(∃h:k< (s9 p i).length,(s9 p i)[k].c≤(j:Int)∧(j:Int)≤(s9 p i)[k].d∧(s9 p i)[k].b<F j)↔((s9 p i)[k].c≤(j:Int)∧(j:Int)≤(s9 p i)[k].d∧(s9 p i)[k].b<F j)):=O (fun j=>⟨fun⟨_,h⟩=>h,fun h=>⟨Z,h⟩⟩)
     have HGB:Hid (∀j,g.testBit j=true→j<64):=O (fun j hj=>by
      obtain⟨m,-,hm,hb⟩:=(Ep j).1 hj;have:=D4 hp (k8 hm)
      omega)
     rw[e1]at d0;generalize (s9 p i)[k].b=yb at*;generalize (s9 p i)[k].c=yc at*;generalize (s9 p i)[k].d=yd at*;obtain⟨nc,rfl⟩:=K5 (show 0≤yc by omega);have HB:=O Ep;have HT:=O (ht.alloc (.cells #[.int .i64 i,.int .i64 yb,.int .i64 nc,.int .i64 yd] 83));have BX:=j4.new wr 83 #[.int .i64 i,.int .i64 yb,.int .i64 nc,.int .i64 yd];have q2:=(BX.cell 2).trans rfl;have HBF:=O ((EQ.o.z7 ht (by simp)).alloc (.cells #[.int .i64 i,.int .i64 yb,.int .i64 nc,.int .i64 yd] 83));clear Z8 e1 ht Ep hk;go_wp2_with fail;generalize wr.heap.size=gx at*;clear q2 d0 d1 d2 d3 hb;generalize wr.alloc _=wa at*;go_loopw [9,12] (fun tg ti wr=>qy3 wa g (nc:Int) yd (fun j=>yb<F j) tg ti wr) (fun _ ti _=>(yd+1 - intOf ti).toNat)
     case atStart=>exact⟨nc,by omega,.inr rfl,rfl,z8 _ _,g,rfl,fun j=>⟨.inl,fun h=>h.elim id (fun h=>by omega)⟩⟩
     case round=>
      obtain⟨d,Za,qZ,rfl,ht,g2,rfl,U3⟩:=hrel;have mR:=BX.z7 ht (by simp);have q1:=(mR.cell 1).trans rfl;have q3:=(mR.cell 3).trans rfl;by_cases hle:(d:Int)≤yd
      ·have zk0:(d:Int)<52:=by omega
       have hd0:(0:Int)≤(d:Int):=by omega
       have qo6:d<64:=by omega
       have s_:g2<18446744073709551616:=Oe (fun j hj=>by
        rcases(U3 j).1 hj with h | h
        ·exact HGB.o j h
        ·omega)
       have O5:=O U3;have g3:wr.cell? ⟨gl,d,none⟩=some (.int .i64 (F d)):=((HBF.o.z7 ht (by simp)).cell d).trans (aR _ (by omega));have g5:=(HBF.o.z7 ht (by simp)).lt;have V3:=O ht;have u1:=O8 d qo6;have u2:=Nx g2 d s_ qo6;have vw: ¬(d:Int)<0:=by omega
       clear U3 mR ht;by_cases hf:yb<F d
       ·have df:decide (yb<F d)=true:=b_ hf;have HF:=O hf;generalize hFd:F d=Fd at*;have HFE:=O hFd;clear hFd;go_wp2_with fail;go_quiet (fail);go_wp2_with (first | rw[u1] | rw[u2])
        exact⟨⟨d+1,by omega,.inl (by omega),by go_num,V3.o.drewN _,g2 ||| 2^d,rfl,fun j=>by
         rw[Og,S9,O5.o,Gu,G3];constructor
         ·rintro((h | h) | h)
          ·exact .inl h
          ·exact .inr ⟨h.1,by omega,h.2.2⟩
          ·subst h;exact .inr ⟨Za,by omega,(by show yb<F d;rw[HFE.o];exact HF.o)⟩
         ·rintro(h | ⟨h1,h2,h3⟩)
          ·exact .inl (.inl h)
          ·rcases Is.1 h2 with h4 | h4
           ·exact .inl (.inr ⟨h1,h4,h3⟩)
           ·exact .inr h4.symm⟩,by simp[intOf];omega⟩
       ·have df:decide (yb<F d)=false:=v8 hf;have HF:=O hf;go_wp2_with fail;go_quiet (fail);go_wp2_with fail
        exact⟨⟨d+1,by omega,.inl (by omega),by go_num,V3.o.drewN _,g2,rfl,fun j=>by
         rw[O5.o];constructor
         ·rintro(h | ⟨h1,h2,h3⟩)
          ·exact .inl h
          ·exact .inr ⟨h1,by omega,h3⟩
         ·rintro(h | ⟨h1,h2,h3⟩)
          ·exact .inl h
          ·rcases Is.1 h2 with h4 | h4
           ·exact .inr ⟨h1,h4,h3⟩
           ·subst h4
            exact absurd h3 (Int.not_lt.2 HF.o)⟩,by simp[intOf];omega⟩
      ·have RJ: ¬(d:Int)≤yd:=hle;have O5:=O U3;have V3:=O ht;clear U3 mR q1 ht;go_wp2_with fail
       exact⟨⟨k+1,Z,by go_num,HT.o.Y V3.o,g2,rfl,Ow HB.o (fun j=>by
        rw[O5.o,HG.o];constructor
        ·rintro(h | ⟨h1,h2,h3⟩)
         ·exact .inl h
         ·exact .inr ⟨h1,by omega,h3⟩
        ·rintro(h | ⟨h1,h2,h3⟩)
         ·exact .inl h
         ·exact .inr ⟨h1,by omega,h3⟩)⟩,by simp[intOf];omega⟩
    ·have j1: ¬(k:Int)< ((s9 p i).length:Int):=by omega
     obtain rfl:k=(s9 p i).length:=by omega
     have HE:=O (GL.o g Ep);clear Ep;go_wp2_with fail;go_ret;exact⟨g,rfl,HE.o,TZ.o.Y ht⟩
def ZS (p:Px)(ms:List Nat)(i:Nat)(x:Q5)(j:Nat):Prop:=n7 (wd ms x.a.toNat)=(j:Int)∧x.d≤(j:Int)∧(j:Int)≤x.e∧Db p x.a.toNat j (C3 ms i j (a_ p x.a.toNat))
def qx3 (w:World)(p:Px)(ms:List Nat)(i:Nat)(tg ti:Value)(wr:World):Prop:= ∃k:Nat,k≤(s6 p i).length∧ti= .int .i64 k∧z6 [] w wr∧ ∃g:Nat,tg= .int .u64 g∧Gl (ZS p ms i) (s6 p i) k g
def qx2 (w:World)(ms:List Nat)(i nd:Nat)(l:List Q5)(ts ti:Value)(wr:World):Prop:= ∃k:Nat,k≤l.length∧ti= .int .i64 k∧z6 [] w wr∧ts= .int .i64 (C3 ms i nd (l.take k))
def qx4 (w:World)(g0 nd:Nat)(P:Q4→Prop)(l:List Q4)(tg ti:Value)(wr:World):Prop:= ∃k:Nat,k≤l.length∧ti= .int .i64 k∧z6 [] w wr∧ ∃g:Nat,tg= .int .u64 g∧ ∀j,g.testBit j=true↔g0.testBit j=true∨(j=nd∧ ∃m,m<k∧ ∃h:m<l.length,P l[m])
theorem oK {l:List Q4}(h: ∀j,g.testBit j=true↔g0.testBit j=true∨(j=nd∧ ∃m,m<k∧ ∃h:m<l.length,P l[m]))(hn: ¬ ∃h:k<l.length,P l[k]): ∀j,g.testBit j=true↔g0.testBit j=true∨(j=nd∧ ∃m,m<k+1∧ ∃h:m<l.length,P l[m]):=fun j=>by
 rw[h];constructor
 ·rintro(h | ⟨h,m,hm,hx⟩)
  ·exact .inl h
  ·exact .inr ⟨h,m,by omega,hx⟩
 ·rintro(h | ⟨h,m,hm,hx⟩)
  ·exact .inl h
  ·rcases Is.1 hm with h3 | h3
   ·exact .inr ⟨h,m,h3,hx⟩
   ·subst h3;exact absurd hx hn
theorem TH {l:List Q4}(h: ∀j,g.testBit j=true↔g0.testBit j=true∨(j=nd∧ ∃m,m<k∧ ∃h:m<l.length,P l[m]))(hn: ∃h:k<l.length,P l[k]): ∀j,(g ||| 2^nd).testBit j=true↔g0.testBit j=true∨(j=nd∧ ∃m,m<k+1∧ ∃h:m<l.length,P l[m]):=fun j=>by
 rw[Og,S9,h,Gu,G3];constructor
 ·rintro((h | ⟨h,m,hm,hx⟩) | h)
  ·exact .inl h
  ·exact .inr ⟨h,m,by omega,hx⟩
  ·exact .inr ⟨h.symm,k,by omega,hn⟩
 ·rintro(h | ⟨h,-⟩)
  ·exact .inl (.inl h)
  ·exact .inr h.symm
theorem vY (sp tb:Nat)(p:Px)(vs vp vc vi vf lv cv:Value)(ms:List Nat)(i:Nat)(w:World)(hp:j8 p)(R6:wY p)(hw:G5 p ms)(hi:i<p.D.length)(hT:Tg w tb p vs vp vc vi vf)(Ho:Y1 w)(hS:j4 w sp 305 #[.pointer (some ⟨tb,0,none⟩),lv,cv])(hL:LB w lv ms):Calls Tryz.prog 242 #[.pointer (some ⟨sp,0,none⟩),.int .i64 i] w fun r w'=> ∃g:Nat,r= .returned (.int .u64 g)∧(∀j,g.testBit j=true↔Lb p ms i j)∧z6 [] w w':=by
 have HS:=p7 (fun W t=>hS.z7 t (by simp));have St:=O (fun(W:World) (t:z6 [] w W) (k:Nat) (hk:k<p.D.length)=>Om sp (.pointer (some ⟨tb,0,none⟩)) cv lv ms k W (HS.o W t) (hL.q8 t) (by rw[hw.len];exact hk) (hw.bits k) (Ho.q8 t));have CY:=O (fun(k:Nat)=>Hf (hw.bits k));have WV:=p7 (fun W t=>hT.q8 t);obtain⟨Ac,cc,rfl⟩:=hT.rc.form;obtain⟨Ai,ci,rfl⟩:=hT.ri.form;obtain⟨Af,cf,rfl⟩:=hT.rf.form;obtain⟨bc,oc,uc,rfl,-,-,-⟩:=hT.rc.at_ (k:=i) (by rw[M6];exact hi);obtain⟨bi,oi,ui,rfl,-,-,-⟩:=hT.ri.at_ (k:=i) (by rw[M6];exact hi);obtain⟨bf,of,uf,rfl,hbf,ef,rf⟩:=hT.rf.at_ (k:=i) (by rw[M6];exact hi);rw[Rz]at rf;obtain⟨Bf,kf,rfl⟩:=rf.form
 have HRA:Hid (∀a,a<p.D.length→ ∃Aa ca,∀W,z6 [] w W→W.cell? ⟨bi,oi+a,none⟩=some (.slice Aa (a_ p a).length ca)∧o5 W (.slice Aa (a_ p a).length ca) (a_ p a)):=O (fun a ha=>by
  obtain⟨b2,o2,u2,e,U3,e2,r2⟩:=hT.ri.at_ (k:=a) (by rw[M6];exact ha);rw[Rz]at r2;injection e with e;injection e with e3 e4;subst e3 e4;obtain⟨Aa,ca,rfl⟩:=r2.form
  exact⟨Aa,ca,fun W t=>⟨(t.cell (p:=⟨bi,oi+a,none⟩) U3 (by simp)).trans e2,r2.q8 t⟩⟩)
 have HRC:Hid (∀a,a<p.D.length→ ∃Aa ca,∀W,z6 [] w W→W.cell? ⟨bc,oc+a,none⟩=some (.slice Aa (s9 p a).length ca)∧T9 W (.slice Aa (s9 p a).length ca) (s9 p a)):=O (fun a ha=>by
  obtain⟨b2,o2,u2,e,U3,e2,r2⟩:=hT.rc.at_ (k:=a) (by rw[M6];exact ha);rw[Rz]at r2;injection e with e;injection e with e3 e4;subst e3 e4;obtain⟨Aa,ca,rfl⟩:=r2.form
  exact⟨Aa,ca,fun W t=>⟨(t.cell (p:=⟨bc,oc+a,none⟩) U3 (by simp)).trans e2,r2.q8 t⟩⟩)
 simp only[M6]at WV;have HC:=p7 (fun W t=>show W.cell? ⟨sp,0,none⟩=some (.pointer (some ⟨tb,0,none⟩))∧W.cell? ⟨tb,515,none⟩=some (.slice (some ⟨bc,oc,none⟩) p.D.length cc)∧W.cell? ⟨tb,516,none⟩=some (.slice (some ⟨bi,oi,none⟩) p.D.length ci)from⟨((HS.o W t).cell 0).trans rfl,(WV.o W t).cc,(WV.o W t).ci⟩);have HRF:=p7 (fun W t=>rf.q8 t);have Xt:(i:Int)< (p.D.length:Int):=by omega
 have CM:(0:Int)≤(i:Int):=by omega
 have hlf:=R6.from_ i
 have Xw:=O (fun(a k:Nat) (d:Nat)=>(show 0≤C3 ms i d ((a_ p a).take k)∧C3 ms i d ((a_ p a).take k)≤107374182400000 by
  have h1:=dU (ms:=ms) (f:=(i:Int)) (c:=(d:Int)) ((a_ p a).take k) (fun x hx=>by
   obtain⟨b,-,-,-,-,-,-,g1,g2,-⟩:=Q2 hp (Qz hx)
   exact⟨by omega,g2⟩)
  have h2:((a_ p a).take k).length≤100000:=by rw[Y8];have:=R6.EX a;omega
  omega))
 have GL:Hid (∀g,Gl (ZS p ms i) (s6 p i) (s6 p i).length g→ ∀j,g.testBit j=true↔Lb p ms i j):=O (fun g h j=>by
  rw[h j,Od (l:=s6 p i) (a9 _) (P:=fun x=>ZS p ms i x j)]
  exact Iff.rfl)
 have Xv:Hid (∀(k g:Nat),Gl (ZS p ms i) (s6 p i) k g→ ∀j,g.testBit j=true→j<64):=O (fun k g h j hj=>by
  obtain⟨m,-,hm,hb⟩:=(h j).1 hj;unfold ZS at hb;have:=CY.o (s6 p i)[m].a.toNat
  omega)
 have c1:=((HS.o w (z8 _ _)).cell 0).trans rfl;have c2:=(WV.o w (z8 _ _)).cf;clear hT hS hL rf hbf hw;go_enter Tryz.func242,Tryz.ntmps242;go_wp2_with fail;clear c1 c2 ef;go_loopw [5,25] (fun tg ti wr=>qx3 w p ms i tg ti wr) (fun _ ti _=>(s6 p i).length - (intOf ti).toNat)
 case atStart=>exact⟨0,by omega,rfl,z8 _ _,0,rfl,fun j=>by simp⟩
 case round=>
  obtain⟨k,hk,rfl,ht,g,rfl,Ep⟩:=hrel;by_cases Z:k< (s6 p i).length
  ·have j1:(k:Int)< ((s6 p i).length:Int):=by omega
   have Z8:=HRF.o wr ht;obtain⟨b,off,rfl,hb⟩:=Z8.addr Z;obtain⟨d0,d1,d2,d3,d4⟩:=o5.at_ Z8 Z;obtain⟨a1,e1,e2,l1,l2,-⟩:=E3 hp (k8 Z);have HGB:=O (Xv.o k g Ep);have hg:=Oe HGB.o;obtain⟨R3,R4⟩:=CY.o a1;obtain⟨nd,Yz⟩:=K5 R3
   have HG:Hid (∀j:Nat,(∃h:k< (s6 p i).length,ZS p ms i (s6 p i)[k] j)↔(j=nd∧(s6 p i)[k].d≤(nd:Int)∧(nd:Int)≤(s6 p i)[k].e∧Db p a1 nd (C3 ms i nd (a_ p a1)))):=O (fun j=>by
    unfold ZS;constructor
    ·rintro⟨_,h1,h2,h3,h4⟩;rw[e2,X4]at h1 h4;rw[Yz]at h1;have:j=nd:=by omega
     subst this;exact⟨rfl,h2,h3,h4⟩
    ·rintro⟨rfl,h2,h3,h4⟩
     exact⟨Z,by rw[e2,X4];exact⟨Yz,h2,h3,h4⟩⟩)
   have DH:=p7 (fun W t=>St.o W t a1 l2);rw[Yz]at DH R4;rw[e2]at d0;rw[e1]at d1;generalize (s6 p i)[k].c=xc at*;generalize (s6 p i)[k].d=xd at*;generalize (s6 p i)[k].e=xe at*;have HB:=O Ep;have HT:=O (ht.alloc (.cells #[.int .i64 a1,.int .i64 i,.int .i64 xc,.int .i64 xd,.int .i64 xe] 81));have BX:=j4.new wr 81 #[.int .i64 a1,.int .i64 i,.int .i64 xc,.int .i64 xd,.int .i64 xe];have q0:=(BX.cell 0).trans rfl;have QU:=O (DH.o _ HT.o);have HL2:=O l2;clear Z8 e1 e2 l1 l2 ht hk Yz Ep R3 DH;go_wp2_with fail;refine QU.o.mono ?_;rintro r w2 ⟨rfl,t2⟩;have mR:=BX.z7 t2 (by simp);have q0:=(mR.cell 0).trans rfl;have q3:=(mR.cell 3).trans rfl;have q4:=(mR.cell 4).trans rfl;have B4:=O (HT.o.Y t2);clear BX t2 HT QU d0 d1 d2 d3 d4 hb;generalize wr.heap.size=gx at*;by_cases Ad:(nd:Int)<xd
   ·go_wp2_with fail;exact⟨⟨k+1,Z,by go_num,B4.o,g,rfl,Ow HB.o (fun j=>by rw[HG.o];exact⟨.inl,fun h=>h.elim id (fun h=>by omega)⟩)⟩,by simp[intOf];omega⟩
   by_cases Cs:xe< (nd:Int)
   ·go_wp2_with fail;exact⟨⟨k+1,Z,by go_num,B4.o,g,rfl,Ow HB.o (fun j=>by rw[HG.o];exact⟨.inl,fun h=>h.elim id (fun h=>by omega)⟩)⟩,by simp[intOf];omega⟩
   have vw: ¬(nd:Int)<0:=by omega
   have PV:=aS g nd hg;by_cases hc3:g.testBit nd=true
   ·rw[x9 hc3]at PV;have QU:=O hc3;clear hc3;go_wp2_with fail;exact⟨⟨k+1,Z,by go_num,B4.o,g,rfl,Ow HB.o (fun j=>by rw[HG.o];exact⟨.inl,fun h=>h.elim id (fun h=>by rw[h.1];exact QU.o)⟩)⟩,by simp[intOf];omega⟩
   rw[z9 hc3]at PV;clear hc3;obtain⟨Aa,ca,hRa⟩:=HRA.o a1 HL2.o;obtain⟨Ab,cb,hRb⟩:=HRC.o a1 HL2.o;have HRa:=O hRa;have HRb:=O hRb;obtain⟨c1,c2,c3⟩:=HC.o w2 B4.o;have c4:=(hRa w2 B4.o).1;have hla:=R6.EX a1;have WK:=R6.Jf a1;have hA1:(a1:Int)< (p.D.length:Int):=by have:=HL2.o;omega
   have ze9:(0:Int)≤(a1:Int):=by omega
   clear hRa hRb;go_wp2_with fail;go_quiet (fail);go_wp2_with fail;have V3:=O (B4.o.drewN nq);have N6:=O (mR.drewN nq);clear q0 q3 q4 c1 c2 c3 c4 mR PV;generalize w2.drewN nq=w3 at*;go_loopw [9,62] (fun ts ti wr=>qx2 w3 ms i nd (a_ p a1) ts ti wr) (fun _ ti _=>(a_ p a1).length - (intOf ti).toNat)
   case atStart=>exact⟨0,by omega,rfl,z8 _ _,by simp[C3]⟩
   case round=>
    obtain⟨k2,V9,rfl,ht,rfl⟩:=hrel;have TW:=O (V3.o.Y ht);by_cases Q7:k2< (a_ p a1).length
    ·have Jo:(k2:Int)< ((a_ p a1).length:Int):=by omega
     have Z8:=(HRa.o wr TW.o).2;obtain⟨b,off,rfl,hb⟩:=Z8.addr Q7;obtain⟨d0,d1,d2,d3,d4⟩:=o5.at_ Z8 Q7;obtain⟨a2,e1,e2,l1,l2,l3,l4,f1,f2,f3,f4⟩:=Q2 hp (k8 Q7);have Q9:=O (fJ (ms:=ms) (f:=(i:Int)) (c:=(nd:Int)) Q7);have ux:Hid ((a_ p a1)[k2].d≤(nd:Int)∧(nd:Int)≤(a_ p a1)[k2].e∧((a2:Int)=(i:Int)∨n7 (wd ms a2)=(nd:Int))→P8 ms i nd (a_ p a1)[k2]=(a_ p a1)[k2].c):=O (fun h=>Xa (by rw[e2,X4];exact h));have HO0:Hid (¬((a_ p a1)[k2].d≤(nd:Int)∧(nd:Int)≤(a_ p a1)[k2].e∧((a2:Int)=(i:Int)∨n7 (wd ms a2)=(nd:Int)))→P8 ms i nd (a_ p a1)[k2]=0):=O (fun h=>Xb (by rw[e2,X4];exact h));obtain⟨s1,s2⟩:=Xw.o a1 k2 nd;have HC4:=p7 (fun W t=>St.o W t a2 l2);rw[e1]at d0;rw[e2]at d1;generalize P8 ms i nd (a_ p a1)[k2]=ol at*;generalize (a_ p a1)[k2].c=yc at*;generalize (a_ p a1)[k2].d=yd at*;generalize (a_ p a1)[k2].e=ye at*;generalize C3 ms i nd ((a_ p a1).take k2)=S at*;generalize n7 (wd ms a2)=dd at*;have BY:=j4.new wr 81 #[.int .i64 a1,.int .i64 a2,.int .i64 yc,.int .i64 yd,.int .i64 ye];have rF:=O (ht.alloc (.cells #[.int .i64 a1,.int .i64 a2,.int .i64 yc,.int .i64 yd,.int .i64 ye] 81));have p1:=(BY.cell 1).trans rfl;have p2:=(BY.cell 2).trans rfl;have p3:=(BY.cell 3).trans rfl;have p4:=(BY.cell 4).trans rfl;have HK2:=O V9;clear Z8 e1 e2 l1 l2 l3 ht V9;by_cases h1:yd≤(nd:Int);rotate_left
     ·go_wp2_with fail;exact⟨⟨k2+1,Q7,by go_num,rF.o,by rw[Q9.o,HO0.o (fun h=>by omega),Ub]⟩,by simp[intOf];omega⟩
     by_cases h2:(nd:Int)≤ye;rotate_left
     ·go_wp2_with fail;exact⟨⟨k2+1,Q7,by go_num,rF.o,by rw[Q9.o,HO0.o (fun h=>by omega),Ub]⟩,by simp[intOf];omega⟩
     by_cases h3:a2=i
     ·have h3':((a2:Int)==(i:Int))=true:=by simp;omega
      go_wp2_with fail;exact⟨⟨k2+1,Q7,by go_num,(by have h:=rF.o;rw[h3]at h;exact h),by rw[Q9.o,ux.o ⟨h1,h2,.inl (by omega)⟩]⟩,by simp[intOf];omega⟩
     have h3':((a2:Int)==(i:Int))=false:=by simp;omega
     go_wp2_with fail;refine(HC4.o _ (V3.o.Y rF.o)).mono ?_;rintro r w4 ⟨rfl,t4⟩;have p2':=((BY.z7 t4 (by simp)).cell 2).trans rfl;have qq1:=O (rF.o.Y t4);clear p1 p2 p3 p4 BY t4;by_cases h4:dd=(nd:Int)
     ·have h4':(dd==(nd:Int))=true:=by simpa using h4
      go_wp2_with fail;exact⟨⟨k2+1,Q7,by go_num,qq1.o,by rw[Q9.o,ux.o ⟨h1,h2,.inr h4⟩]⟩,by simp[intOf];omega⟩
     ·have h4':(dd==(nd:Int))=false:=by simpa using h4
      go_wp2_with fail;exact⟨⟨k2+1,Q7,by go_num,qq1.o,by rw[Q9.o,HO0.o (fun h=>by rcases h.2.2 with h | h<;>omega),Ub]⟩,by simp[intOf];omega⟩
    ·have Jo: ¬(k2:Int)< ((a_ p a1).length:Int):=by omega
     rw[N2 (show(a_ p a1).length≤k2 by omega)];generalize C3 ms i nd (a_ p a1)=SL at*;obtain⟨c1,c2,c3⟩:=HC.o wr TW.o;have c4:=(HRb.o wr TW.o).1;have q0:=((N6.o.z7 ht (by simp)).cell 0).trans rfl;clear ht V9 Q7;go_wp2_with fail;go_quiet (fail);go_wp2_with fail;have K8:=O (TW.o.drewN nq);clear c1 c2 c3 c4 q0 TW;generalize wr.drewN nq=w5 at*;go_loopw [5,107] (fun tg ti wr=>qx4 w5 g nd (fun y=>y.c≤(nd:Int)∧(nd:Int)≤y.d∧y.b<SL) (s9 p a1) tg ti wr) (fun _ ti _=>(s9 p a1).length - (intOf ti).toNat)
     case atStart=>exact⟨0,by omega,rfl,z8 _ _,g,rfl,fun j=>by simp⟩
     case round=>
      obtain⟨k3,PM,rfl,ht,g2,rfl,U3⟩:=hrel;by_cases Dw:k3< (s9 p a1).length
      ·have IG:(k3:Int)< ((s9 p a1).length:Int):=by omega
       have Z8:=(HRb.o wr (K8.o.Y ht)).2;obtain⟨b,off,rfl,hb⟩:=Z8.addr Dw;obtain⟨d0,d1,d2,d3⟩:=T9.at_ Z8 Dw;obtain⟨e1,e2,e3,e4,e5⟩:=D4 hp (k8 Dw);have HP:Hid ((∃h:k3< (s9 p a1).length,(s9 p a1)[k3].c≤(nd:Int)∧(nd:Int)≤(s9 p a1)[k3].d∧(s9 p a1)[k3].b<SL)↔((s9 p a1)[k3].c≤(nd:Int)∧(nd:Int)≤(s9 p a1)[k3].d∧(s9 p a1)[k3].b<SL)):=O ⟨fun⟨_,h⟩=>h,fun h=>⟨Dw,h⟩⟩
       have s_:g2<18446744073709551616:=Oe (fun j hj=>by
        rcases(U3 j).1 hj with h | h
        ·exact HGB.o j h
        ·omega)
       rw[e1]at d0;generalize (s9 p a1)[k3].b=yb at*;generalize (s9 p a1)[k3].c=yc at*;generalize (s9 p a1)[k3].d=yd at*;have BY:=j4.new wr 83 #[.int .i64 a1,.int .i64 yb,.int .i64 yc,.int .i64 yd];have rF:=O (ht.alloc (.cells #[.int .i64 a1,.int .i64 yb,.int .i64 yc,.int .i64 yd] 83));have p1:=(BY.cell 1).trans rfl;have p2:=(BY.cell 2).trans rfl;have p3:=(BY.cell 3).trans rfl;have O5:=O U3;clear Z8 e1 U3 ht PM BY;by_cases h1:yc≤(nd:Int);rotate_left
       ·go_wp2_with fail;exact⟨⟨k3+1,Dw,by go_num,rF.o,g2,rfl,oK (P:=fun y=>y.c≤(nd:Int)∧(nd:Int)≤y.d∧y.b<SL) (l:=s9 p a1) O5.o (fun h=>by have:=HP.o.1 h;omega)⟩,by simp[intOf];omega⟩
       by_cases h2:(nd:Int)≤yd;rotate_left
       ·go_wp2_with fail;exact⟨⟨k3+1,Dw,by go_num,rF.o,g2,rfl,oK (P:=fun y=>y.c≤(nd:Int)∧(nd:Int)≤y.d∧y.b<SL) (l:=s9 p a1) O5.o (fun h=>by have:=HP.o.1 h;omega)⟩,by simp[intOf];omega⟩
       by_cases h3:yb<SL;rotate_left
       ·go_wp2_with fail;exact⟨⟨k3+1,Dw,by go_num,rF.o,g2,rfl,oK (P:=fun y=>y.c≤(nd:Int)∧(nd:Int)≤y.d∧y.b<SL) (l:=s9 p a1) O5.o (fun h=>by have:=HP.o.1 h;omega)⟩,by simp[intOf];omega⟩
       have u1:=O8 nd (by omega);have u2:=Nx g2 nd s_ (by omega);have HPP:=O (HP.o.2 ⟨h1,h2,h3⟩);go_wp2_with (first | rw[u1] | rw[u2]);exact⟨⟨k3+1,Dw,by go_num,rF.o,g2 ||| 2^nd,rfl,TH (P:=fun y=>y.c≤(nd:Int)∧(nd:Int)≤y.d∧y.b<SL) (l:=s9 p a1) O5.o HPP.o⟩,by simp[intOf];omega⟩
      ·have IG: ¬(k3:Int)< ((s9 p a1).length:Int):=by omega
       have uy:Hid (∀j,g2.testBit j=true↔g.testBit j=true∨(j=nd∧Db p a1 nd SL)):=O (fun j=>by
        rw[U3,Od (l:=s9 p a1) (k:=k3) (by omega) (P:=fun y=>y.c≤(nd:Int)∧(nd:Int)≤y.d∧y.b<SL)]
        exact Iff.rfl)
       have Vl:=O (K8.o.Y ht);clear U3 ht;go_wp2_with fail
       exact⟨⟨k+1,Z,by go_num,Vl.o,g2,rfl,Ow HB.o (fun j=>by
        rw[uy.o,HG.o];constructor
        ·rintro(h | ⟨h1,h2⟩)
         ·exact .inl h
         ·exact .inr ⟨h1,by omega,by omega,h2⟩
        ·rintro(h | ⟨h1,-,-,h2⟩)
         ·exact .inl h
         ·exact .inr ⟨h1,h2⟩)⟩,by simp[intOf];omega⟩
  ·have j1: ¬(k:Int)< ((s6 p i).length:Int):=by omega
   obtain rfl:k=(s6 p i).length:=by omega
   have HE:=O (GL.o g Ep);clear Ep;go_wp2_with fail;go_ret;exact⟨g,rfl,HE.o,ht⟩
end Go.Proofs.YtlhlmcohdkkjpaaGreatDoor
