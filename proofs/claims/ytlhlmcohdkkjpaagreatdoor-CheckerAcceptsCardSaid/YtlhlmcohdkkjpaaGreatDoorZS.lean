/- Package nogood: forced: what a nogood removes. -/
import Derived.Test.YtlhlmcohdkkjpaaGreatDoorZR
set_option linter.all false
set_option maxHeartbeats 8000000
set_option maxRecDepth 100000
namespace Go.Proofs.YtlhlmcohdkkjpaaGreatDoor
open Go.RowKit
def cz (c:Cx):Array Value:=#[.int .i64 c.a,.int .i64 c.b]
def Lr (p:Px)(ms:List Nat)(g:List Cx)(c:Cx)(ok:Bool):Prop:=
 (2≤(M3 p ms g).length∧ok=false)∨(M3 p ms g= []∧ok=true∧(g= []∨c∈g))∨(M3 p ms g= [c]∧ok=(wd ms (G8 p c.a)).testBit c.b.toNat)
def Sd (p:Px)(ms:List Nat)(l:List Cx)(w:World)(r:Ending)(w':World):Prop:= ∃c ok,r= .returned (.tuple #[.agg (cz c),.bool ok])∧Lr p ms l c ok∧z6 [] w w'
variable{a:Act}{ops:Array Oper}{c:Cx}{Q:Exit→Act→World→Prop}{M0:Left}{gs:List (List Cx)}{l g:List Cx}{ms:List Nat}{k sp tb sb i:Nat}{f:Nat→Nat}{o:Oper}{x:Operand}{p:Px}{vs vp vc vi vf gv:Value}{w w' w0:World}
theorem Sd.mk (c:Cx)(ok:Bool)(h:Lr p ms l c ok)(t:z6 [] w w'):Sd p ms l w (.returned (.tuple #[.agg #[.int .i64 c.a,.int .i64 c.b],.bool ok])) w':=⟨c,ok,rfl,h,t⟩
theorem rq (hk:k<g.length):M3 p ms (g.take (k+1))=M3 p ms (g.take k)++(if wh p ms g[k].a=g[k].b then []else [g[k]]):=by
 unfold M3;rw[Cw hk,cV]
 congr 1
 by_cases h:wh p ms g[k].a=g[k].b
 ·simp[h]
 ·simp[h]
theorem SW (k:Nat):(M3 p ms (g.take k)).length≤(M3 p ms g).length:=by
 have e:M3 p ms g=M3 p ms (g.take k)++M3 p ms (g.drop k):=by
  unfold M3;rw[←cV,List.take_append_drop]
 rw[e,Ec];omega
def CO (o:List Cx):Cx:=o.headD ⟨0,0⟩
def qy0 (w1:World)(g8:Nat)(p:Px)(ms:List Nat)(g:List Cx)(tn ti:Value)(wr:World):Prop:= ∃k:Nat,k≤g.length∧ti= .int .i64 k∧z6 [g8] w1 wr∧(M3 p ms (g.take k)).length≤1∧tn= .int .i64 (M3 p ms (g.take k)).length∧Hid (j4 wr g8 53 (cz (CO (M3 p ms (g.take k)))))
theorem qr9: ∀w,(zeroValue 53).run Tryz.prog w= .ok (.agg #[.int .i64 0,.int .i64 0]) w:=(zero_of_info (v:= .agg #[.int .i64 0,.int .i64 0]) (n:=2) (by kernel_rfl)).1
theorem NM:Tryz.prog.built 53 []=some #[.int .i64 0,.int .i64 0]:=by kernel_rfl
theorem Ir:(Tryz.prog.info? 53).map (·.size)=some 2:=by kernel_rfl
theorem zt {g cap Zw:Nat}(hu:xL w0 tb p vs vp vc vi vf)(h:Vk w0 w sp tb g cap p ms false)(hw:G5 p ms)(l:List Cx)(hn:Ml p l)(hl:Q0 w gv l)(T3:l.length≤100000)(tf:j4 w Zw 154 (U0 (fun s=>wh p ms s))):Calls Tryz.prog 219 #[.pointer (some ⟨sp,0,none⟩),.pointer (some ⟨Zw,0,none⟩),gv] w (Sd p ms l w):=by
 have Vn:=O (fun(W:World) (t:z6 [] w W) (y:Cx) (hy:y∈l) (c:Nat) (e:y.b=(c:Int))=>TR hu (h.q8 t) hw y.a c (hn.has y hy).1 (by have:=(hn.has y hy).2.1;omega) (by have:=(hn.has y hy).2.2;omega))
 have HNH:=O (fun(y:Cx) (hy:y∈l)=>(show(0≤y.a∧y.a<512)∧2≤y.b∧y.b≤51 from by
  obtain⟨h1,h2,h3⟩:=hn.has y hy;obtain⟨g1,g2⟩:=X0 h1;have:=hu.hp.sr _ g1
  omega))
 obtain⟨A,cl,rfl⟩:=hl.form;have HL:=p7 (fun W t=>hl.q8 t);have St:=p7 (fun W t=>tf.z7 t (by simp));have hz:=qr9;have Fw:z6 [] w ((w.alloc (.cells (cz ⟨0,0⟩) 53)).alloc (.cells (cz ⟨0,0⟩) 53)):=((z8 [] w).alloc _).alloc _;have b1:=(j4.new w 53 (cz ⟨0,0⟩)).alloc (.cells (cz ⟨0,0⟩) 53);have b2:=j4.new (w.alloc (.cells (cz ⟨0,0⟩) 53)) 53 (cz ⟨0,0⟩);simp only[World.size_alloc]at b2;unfold cz at Fw b1 b2;clear h hu hw hn hl tf;go_enter Tryz.func219,Tryz.ntmps219;go_wp2_with fail;generalize (w.alloc _).alloc _=w1 at b1 b2 Fw⊢;obtain⟨g6,hg⟩: ∃g6,g6=w.heap.size:=⟨_,rfl⟩;rw[←hg]at b1 b2⊢;have bL:=O hg;have Ag:=O b1;have O5:=O b2;have V0:=O Fw;clear hg b1 b2 Fw;have gS:=O (fun(W:World) (t:z6 [g6+1] w1 W)=>V0.o.step t (fun m hm=> .inr (by rw[y7]at hm;have:=bL.o;omega)));go_loopw [9,14] (fun tn ti wr=>qy0 w1 (g6+1) p ms l tn ti wr) (fun _ ti _=>l.length - (intOf ti).toNat)
 case atStart=>exact⟨0,by omega,rfl,z8 _ _,by simp[M3],by simp[M3],O (by simpa[M3,CO,cz]using O5.o)⟩
 case round=>
  clear O5;obtain⟨k,hk,rfl,ht,ho,rfl,Hm⟩:=hrel;have TW:=O (gS.o wr ht);have HT:=O ht;by_cases Z:k<l.length
  ·have j1:(k:Int)< (l.length:Int):=by omega
   have aZ:=HL.o wr TW.o;obtain⟨b,off,rfl,hb⟩:=aZ.addr Z;obtain⟨ca,cb⟩:=Q0.at_ aZ Z;obtain⟨⟨s1,s2⟩,s3,s4⟩:=HNH.o _ (k8 Z);have Q9:=O (rq (p:=p) (ms:=ms) Z);have aA:=O (SW (p:=p) (ms:=ms) (g:=l) (k+1));obtain⟨n,hn⟩:=K5 s1;generalize hx:l[k]=x at*;obtain⟨xa,xb⟩:=x;simp only at ca cb s1 s2 s3 s4 hn Q9;subst hn;generalize M3 p ms (l.take k)=o at*;have OL:(n:Int)<512:=by omega
   have vw:(0:Int)≤(n:Int):=by omega
   have g3:(wr.alloc (.cells #[.int .i64 n,.int .i64 xb] 53)).cell? ⟨Zw,n,none⟩=some (.int .i64 (wh p ms (n:Int))):=((St.o _ (TW.o.alloc _)).cell n).trans (Ds _ (by omega));have J6:=O (ht.alloc (.cells #[.int .i64 n,.int .i64 xb] 53));have aC:=O (Hm.o.alloc (.cells #[.int .i64 n,.int .i64 xb] 53));have Vo:=O ((Ag.o.z7 ht (by simp)).alloc (.cells #[.int .i64 n,.int .i64 xb] 53));have N6:=O (j4.new wr 53 #[.int .i64 n,.int .i64 xb]);have q0:=(N6.o.cell 0).trans rfl;have q1:=(N6.o.cell 1).trans rfl;generalize wh p ms (n:Int)=on at*;clear aZ ht hk Hm hb hx;by_cases he:on=xb
   ·have hd:(on !=xb)=false:=by simpa using he
    rw[x9 he,tG]at Q9;go_wp2_with fail;go_quiet (fail);have nf:=O (aC.o.drewN nq);have qf3:=O (Vo.o.drewN nq);have sD:=O (N6.o.drewN nq);have B4:=O (J6.o.drewN nq);have q0':=(sD.o.cell 0).trans rfl;have VO:=(sD.o.cell 1).trans rfl;clear q0 q1 g3 aC Vo N6 J6;generalize (wr.alloc (.cells #[.int .i64 n,.int .i64 xb] 53)).drewN nq=w3 at*;have B_:=nf.o;unfold cz at B_;have hol: ¬(1:Int)< (o.length:Int):=by omega
    go_wp2_with fail;exact⟨⟨k+1,Z,by go_num,B4.o,by rw[Q9.o];exact ho,by rw[Q9.o],O (by rw[Q9.o];exact nf.o)⟩,by simp[intOf];omega⟩
   ·have hd:(on !=xb)=true:=by simpa using he
    rw[z9 he]at Q9
    cases o with
    | nil=>
     go_wp2_with fail;go_quiet (fail);have nf:=O (aC.o.drewN nq);have qf3:=O (Vo.o.drewN nq);have sD:=O (N6.o.drewN nq);have B4:=O (J6.o.drewN nq);have q0':=(sD.o.cell 0).trans rfl;have VO:=(sD.o.cell 1).trans rfl;clear q0 q1 g3 aC Vo N6 J6;generalize (wr.alloc (.cells #[.int .i64 n,.int .i64 xb] 53)).drewN nq=w3 at*;have B_:=nf.o;unfold cz at B_;go_wp2_with (refine Am (cs':=#[.int .i64 n,.int .i64 xb]) Ir (by rfl) (by simp[Value.oneCell']) B_ ?_;intro w4 b4 t4);exact⟨⟨k+1,Z,by go_num,B4.o.trans t4,by rw[Q9.o];simp,by rw[Q9.o];rfl,O (by rw[Q9.o];exact b4)⟩,by simp[intOf];omega⟩
    | cons y o'=>
     obtain rfl:o'= []:=by cases o' with | nil=>rfl | cons z o''=>simp at ho
     go_wp2_with fail;go_quiet (fail);have nf:=O (aC.o.drewN nq);have qf3:=O (Vo.o.drewN nq);have sD:=O (N6.o.drewN nq);have B4:=O (J6.o.drewN nq);have q0':=(sD.o.cell 0).trans rfl;have VO:=(sD.o.cell 1).trans rfl;clear q0 q1 g3 aC Vo N6 J6;generalize (wr.alloc (.cells #[.int .i64 n,.int .i64 xb] 53)).drewN nq=w3 at*;have B_:=nf.o;unfold cz at B_;simp only[Cz,tA]at*;have HF:=O (show 2≤(M3 p ms l).length from by have:=aA.o;rw[Q9.o]at this;simpa using this);have b62:=qf3.o;have XP:Hid (g6≠g6+1):=O (by omega);go_wp2_with (first | (refine Am (cs':=#[.int .i64 n,.int .i64 xb]) Ir (by rfl) (by simp[Value.oneCell']) B_ ?_;intro w4 b4 t4;have b64:=b62.z7 t4 (by simp)) | (refine wpList_buildTo rfl 53 _ rfl _ rfl _ (by exact NM) ?_) | (refine Am (cs':=#[.int .i64 0,.int .i64 0]) Ir (by rfl) (by simp[Value.oneCell']) b64 ?_;intro w5 b5 t5));refine bodyPost_ret (v:= .tuple #[.agg #[.int .i64 0,.int .i64 0],.bool false]) (P3 b5 rfl Tryz.underlying53 Ir rfl rfl rfl) rfl (Sd.mk ⟨0,0⟩ false (.inl ⟨HF.o,rfl⟩) ?_);exact(gS.o _ (B4.o.trans t4)).step t5 (fun m hm=> .inr (by rw[y7]at hm;have:=bL.o;omega))
  ·have j1: ¬(k:Int)< (l.length:Int):=by omega
   have Qi:l.take k=l:=N2 (by omega);simp only[Qi]at ho Hm⊢;have Vo:=O (Ag.o.z7 ht (by simp));have HMO:Hid (∀y∈M3 p ms l,y∈l):=O (fun y hy=>(G4.1 hy).1);have XQ:Hid (∀c ok,Lr p ms l c ok↔(2≤(M3 p ms l).length∧ok=false)∨(M3 p ms l= []∧ok=true∧(l= []∨c∈l))∨(M3 p ms l= [c]∧ok=(wd ms (G8 p c.a)).testBit c.b.toNat)):=O (fun c ok=>Iff.rfl);generalize M3 p ms l=o at*
   cases o with
   | nil=>
    have b6:=Vo.o;have b8:=Hm.o;unfold cz at b6 b8;simp only[tA]at*;by_cases hln:l.length=0
    ·have yC:l= []:=cR.1 hln;have Hk: ¬(0:Int)< (l.length:Int):=by omega
     go_upto_region 14 with fail
     have PD:=O b8;have HC8:=O (fun(W:World) (t:z6 [g6] wr W)=>show W.cell? ⟨g6+1,0,none⟩=some (.int .i64 (CO []).a)∧W.cell? ⟨g6+1,1,none⟩=some (.int .i64 (CO []).b)from⟨((PD.o.z7 t (by simp)).cell 0).trans rfl,((PD.o.z7 t (by simp)).cell 1).trans rfl⟩);refine wp_region_held_drew (S:=fun W=>z6 [g6] wr W) (by kernel_rfl) (z8 [g6] wr).drew (fun hS=> ?_);refine kw 0 hS ?_ (hy:=by intro W m7;obtain⟨e0,e1⟩:=HC8.o W m7;go_simp<;>rfl);refine kw 1 hS ?_;refine kw 2 hS ?_;refine kw 3 hS ?_;refine ku 4 hS ?_;refine ku 5 hS ?_;refine ku 6 hS ?_;refine kw 7 hS ?_;have b6d:=b6.drew;have V9:=Hd b6d #[.int .i64 (CO []).a,.int .i64 (CO []).b];refine s8 8 rfl (fun K hK=> ?_);refine wp_store_row 53 _ _ rfl g6 _ rfl rfl 53 _ b6d Ir rfl (by simp[Value.oneCell']) (hK.o _ _ ((z8 [g6] wr).drew.trans V9.2) (fun _=> ?_));clear hK K;refine s8 9 rfl (fun K hK=> ?_);go_simp;refine zk6 hK ((z8 [g6] wr).drew.trans V9.2) ?_;clear hK K;refine wpAnyH_done (by kernel_rfl) ?_ _;go_wp2_with fail;refine bodyPost_ret (v:= .tuple #[.agg #[.int .i64 (CO []).a,.int .i64 (CO []).b],.bool true]) (P3 V9.1 rfl Tryz.underlying53 Ir rfl rfl rfl) rfl ?_;refine Sd.mk (CO []) true (by have h:=(XQ.o (CO []) true).2 (.inr (.inl ⟨trivial,rfl,.inl yC⟩));rwa [yC]at h) ?_;exact TW.o.step ((z8 [g6] wr).drew.trans V9.2) (fun m hm=> .inr (by rw[y7]at hm;have:=bL.o;omega))
    ·have Hk:(0:Int)< (l.length:Int):=by omega
     have dm:0<l.length:=by omega
     have aZ:=HL.o wr TW.o;obtain⟨b,off,rfl,hb⟩:=aZ.addr dm;obtain⟨ca,cb⟩:=Q0.at_ aZ dm;have U_:Hid (l[0]∈l):=O (k8 dm);simp only[Nat.zero_mul,Jp]at ca cb;generalize l[0]=x at*;obtain⟨xa,xb⟩:=x;simp only at ca cb;clear aZ hb;go_wp2_with (refine Am (cs':=#[.int .i64 xa,.int .i64 xb]) Ir (by rfl) (by simp[Value.oneCell']) b6 ?_;intro w5 b5 t5);refine bodyPost_ret (v:= .tuple #[.agg #[.int .i64 xa,.int .i64 xb],.bool true]) (P3 b5 rfl Tryz.underlying53 Ir rfl rfl rfl) rfl ?_;refine Sd.mk ⟨xa,xb⟩ true ((XQ.o _ _).2 (.inr (.inl ⟨trivial,rfl,.inr U_.o⟩))) ?_;exact TW.o.step t5 (fun m hm=> .inr (by rw[y7]at hm;have:=bL.o;omega))
   | cons y o'=>
    obtain rfl:o'= []:=by cases o' with | nil=>rfl | cons z o''=>simp at ho
    have b6:=Vo.o;have b8:=Hm.o;unfold cz at b6 b8;simp only[Cz,tA]at*;have hym:=HMO.o y (by simp);obtain⟨⟨s1,s2⟩,s3,s4⟩:=HNH.o y hym;obtain⟨c,hc⟩:=K5 (show 0≤y.b by omega);have HHY:=p7 (fun W t=>Vn.o W t y hym c hc);have HY:Hid ((CO [y]).a=y.a∧(CO [y]).b=(c:Int)):=O ⟨rfl,hc⟩;have HYT:Hid (y.b.toNat=c):=O (by rw[hc];rfl);have D6:=O (fun(W:World) (t:z6 [g6] wr W)=>TW.o.step t (fun m hm=> .inr (by rw[y7]at hm;have:=bL.o;omega)));rw[HY.o.1,HY.o.2]at b8;have PD:=O b8;have HC8:=O (fun(W:World) (t:z6 [g6] wr W)=>show W.cell? ⟨g6+1,0,none⟩=some (.int .i64 y.a)∧W.cell? ⟨g6+1,1,none⟩=some (.int .i64 (c:Int))from⟨((PD.o.z7 t (by simp)).cell 0).trans rfl,((PD.o.z7 t (by simp)).cell 1).trans rfl⟩);go_upto_region 14 with fail
    refine wp_region_held_drew (S:=fun W=>z6 [g6] wr W) (by kernel_rfl) (z8 [g6] wr).drew (fun hS=> ?_);refine kw 0 hS ?_ (hy:=by intro W m7;obtain⟨e0,e1⟩:=HC8.o W m7;go_simp<;>rfl);refine kw 1 hS ?_;refine kw 2 hS ?_;refine kw 3 hS ?_;refine kw 4 hS ?_;refine kw 5 hS ?_ (hy:=by intro W m7;obtain⟨e0,e1⟩:=HC8.o W m7;go_simp<;>rfl);refine s8 6 rfl (fun K hK=> ?_);go_simp;refine(HHY.o _ (D6.o _ hS)).mono ?_;rintro r w4 ⟨rfl,t4⟩;have En:=hS.Y t4;go_wp2_with fail;refine zk6 hK En ?_;clear hK K;refine kw 7 En ?_;have b6d:=b6.drew.z7 t4 (by simp);have V9:=Hd b6d #[.int .i64 y.a,.int .i64 (c:Int)];refine s8 8 rfl (fun K hK=> ?_);refine wp_store_row 53 _ _ rfl g6 _ rfl rfl 53 _ b6d Ir rfl (by simp[Value.oneCell']) (hK.o _ _ (En.trans V9.2) (fun _=> ?_));clear hK K;refine s8 9 rfl (fun K hK=> ?_);go_simp;refine zk6 hK (En.trans V9.2) ?_;clear hK K;refine wpAnyH_done (by kernel_rfl) ?_ _;go_wp2_with fail;refine bodyPost_ret (v:= .tuple #[.agg #[.int .i64 y.a,.int .i64 (c:Int)],.bool ((wd ms (G8 p y.a)).testBit c)]) (P3 V9.1 rfl Tryz.underlying53 Ir rfl rfl rfl) rfl ?_;have hm:=Sd.mk y ((wd ms (G8 p y.a)).testBit c) ((XQ.o _ _).2 (.inr (.inr ⟨rfl,by rw[HYT.o]⟩))) (D6.o _ (En.trans V9.2));rw[hc]at hm;exact hm
def Rr (p:Px)(s:Int):Nat:=if y8 p s=true then 1 ||| C4 (p.D.getD (G8 p s) ⟨0,[]⟩).ch else 0
theorem UI (hn:Dz p.D)(s:Int):Rr p s<18446744073709551616:=by
 unfold Rr;split
 ·rename_i h;obtain⟨h1,-⟩:=X0 h;rw[Bz,j6 h1];exact Nat.or_lt_two_pow (n:=64) (by decide) (aL (fun c hc=>hn.rg _ (k8 h1) c hc)).lt
 ·decide
def Tq (p:Px)(y:Cx):Bool:=p.D.any (fun d=>d.st==y.a&&d.ch.contains y.b)
theorem NK (hp:j8 p)(hn:Dz p.D){s:Int}{c:Nat}(hc:2≤c):(Rr p s).testBit c=Tq p ⟨s,c⟩:=by
 rw[Jr];unfold Rr Tq;rw[Ua];by_cases hs:y8 p s=true
 ·rw[x9 hs];obtain⟨h1,h2⟩:=X0 hs;rw[Bz,j6 h1,Og,S9]
  have e1:(1:Nat).testBit c=false:=by
   rw[show(1:Nat)=2^0 from rfl,Gu,v8 (by omega)]
  have e2:=Uu (l:=p.D[G8 p s].ch) (j:=c) (fun x hx=>by have:=hn.rg _ (k8 h1) x hx;omega);rw[e1];constructor
  ·rintro(h | h)
   ·cases h
   ·refine⟨_,k8 h1,?_⟩;rw[p9];exact⟨by rw[Ff h1]at h2;simpa using h2,by simpa using e2.1 h⟩
  ·rintro⟨d,hd,h⟩;rw[p9]at h;obtain⟨j,hj,rfl⟩:=Bg hd;have h3:p.D[j].st=s:=by simpa using h.1
   have h4:j=G8 p s:=hp.RN _ _ hj h1 (by rw[Ff hj,h3,h2]);subst h4;exact .inr (e2.2 (by simpa using h.2))
 ·rw[z9 hs,Ew];constructor
  ·intro h;cases h
  ·rintro⟨d,hd,h⟩;rw[p9]at h;obtain⟨j,hj,rfl⟩:=Bg hd;have h3:p.D[j].st=s:=by simpa using h.1
   exact absurd (by rw[←h3,←Ff hj];exact dD hj) hs
def nh (w:World)(sb:Nat)(p:Px):Prop:=sb<w.heap.size∧ ∀s:Nat,s<512→w.cell? ⟨sb,s,none⟩=some (.int .u64 (Rr p (s:Int):Nat))
theorem nh.q8 (h:nh w sb p)(t:z6 [] w w'):nh w' sb p:=⟨W6 h.1 t.size,fun s hs=>(t.cell (p:=⟨sb,s,none⟩) h.1 (by simp)).trans (h.2 s hs)⟩
theorem Si (hp:j8 p)(hn:Dz p.D)(hs:nh w sb p)(l:List Cx)(hl:Q0 w gv l)(T3:l.length≤100000):Calls Tryz.prog 169 #[.pointer (some ⟨sb,0,none⟩),gv] w fun r w'=>r= .returned (.bool (Eo p l))∧z6 [] w w':=by
 have Zc:=O (Du gv l w hl T3);obtain⟨A,cl,rfl⟩:=hl.form;have HL:=p7 (fun W t=>hl.q8 t);have HS:=p7 (fun W t=>hs.q8 t);have HR:Hid (Eo p l=(Iw l&&l.all (Tq p))):=O rfl;have mo:=O (fun(s:Int)=>UI hn s);have HDB:=O (fun(s:Int) (c:Nat) (hc:2≤c)=>NK hp hn (s:=s) hc);generalize Eo p l=n9 at*;clear hs hl;by_cases hc:Iw l=true;rotate_left
 ·have u_:Iw l=false:=by simpa using hc
  rw[u_,B6]at HR;rw[u_]at Zc;go_enter Tryz.func169,Tryz.ntmps169;go_wp2_with fail;refine Zc.o.mono ?_;rintro r w1 ⟨rfl,t1⟩;go_wp2_with fail;go_ret;exact⟨v9 (by rw[HR.o]),t1⟩
 rw[hc,Z4]at HR;rw[hc]at Zc
 have Qs:Hid (∀x∈l,(0≤x.a∧x.a≤511)∧2≤x.b∧x.b≤51):=O (fun x hx=>by
  obtain⟨j,hj,rfl⟩:=Bg hx;have h1:=(Fs.1 hc).1 j _ (j6 hj);unfold Vz K2 at h1;simp only[p9,E0]at h1
  omega)
 clear hc;go_enter Tryz.func169,Tryz.ntmps169;go_wp2_with fail;refine Zc.o.mono ?_;rintro r w1 ⟨rfl,t1⟩;have J6:=O t1;clear t1;go_wp2_with fail;go_loopw [12] (fun ti wr=>C9 (Tq p) w1 l ti wr) (fun ti _=>l.length - (intOf ti).toNat)
 case atStart=>exact⟨0,by omega,rfl,z8 _ _,O (fun j x h=>by omega)⟩
 case round=>
  obtain⟨k,hk,rfl,ht,HX⟩:=hrel;by_cases Z:k<l.length
  ·have j1:(k:Int)< (l.length:Int):=by omega
   have aZ:=HL.o wr (J6.o.Y ht);obtain⟨b,off,rfl,hb⟩:=aZ.addr Z;obtain⟨ca,cb⟩:=Q0.at_ aZ Z;obtain⟨⟨s1,s2⟩,s3,s4⟩:=Qs.o _ (k8 Z);have D7:Hid (Tq p l[k]=false→n9=false):=O (fun e=>by rw[HR.o];exact B7 (good:=Tq p) Z e);have I5:Hid (Tq p l[k]=true→ ∀(j:Nat) x,j<k+1→l[j]? =some x→Tq p x=true):=O (fun e=>X7 (good:=Tq p) HX.o Z e);obtain⟨n,gP⟩:=K5 s1;obtain⟨c,Ad⟩:=K5 (show 0≤l[k].b by omega)
   have hx:l[k]=⟨(n:Int),(c:Int)⟩:=by
    rw[←gP,←Ad]
   rw[hx]at ca cb s1 s2 s3 s4 D7 I5;simp only at ca cb s1 s2 s3 s4;have dm:=mo.o (n:Int);have Ep:=HDB.o (n:Int) c (by omega);rw[←Ep]at D7 I5;have PV:=aS (Rr p (n:Int)) c dm;have g3:(wr.alloc (.cells #[.int .i64 n,.int .i64 c] 53)).cell? ⟨sb,n,none⟩=some (.int .u64 (Rr p (n:Int):Nat)):=(HS.o _ ((J6.o.Y ht).alloc _)).2 n (by omega);have OL:(n:Int)<512:=by omega
   have vw:(0:Int)≤(n:Int):=by omega
   have hc0: ¬(c:Int)<0:=by omega
   have ze7: ¬(51:Int)< (c:Int):=by omega
   have N6:=O (j4.new wr 53 #[.int .i64 n,.int .i64 c]);have q0:=(N6.o.cell 0).trans rfl;have q1:=(N6.o.cell 1).trans rfl;have V0:=O (ht.alloc (.cells #[.int .i64 n,.int .i64 c] 53));generalize (Rr p (n:Int)).testBit c=tb at*;generalize Rr p (n:Int)=m at*;clear aZ ht hk HX hb hx gP Ad Ep dm s1 s2 s3 s4
   cases tb with
   | false=>
    simp only[Uc,if_false]at PV;have y5:=O (D7.o rfl);go_wp2_with fail;go_quiet (fail);go_wp2_with fail;go_ret;exact⟨v9 (by rw[y5.o]),J6.o.Y (V0.o.drewN _)⟩
   | true=>
    simp only[if_true]at PV;have Sz:=O (I5.o rfl);go_wp2_with fail;go_quiet (fail);go_wp2_with fail;exact⟨⟨k+1,Z,by go_num,V0.o.drewN _,Sz⟩,by simp[intOf];omega⟩
  ·have j1: ¬(k:Int)< (l.length:Int):=by omega
   have y5:Hid (n9=true):=O (by rw[HR.o];exact U8 HX.o (by omega));clear HX;go_wp2_with fail;go_ret;exact⟨v9 (by rw[y5.o]),J6.o.Y ht⟩
def N9 (f:Nat→Nat):Array Value:=((List.range 512).map (fun i=>Value.int .u64 (f i:Nat))).toArray
theorem Bk (f:Nat→Nat):(N9 f).size=512:=by simp[N9]
theorem NO (f:Nat→Nat):(N9 f).all (·.oneCell')=true:=by simp[N9,Value.oneCell']
theorem aQ (f:Nat→Nat)(h:i<512):(N9 f)[i]? =some (.int .u64 (f i:Nat)):=by simp[N9,h]
theorem vH (f:Nat→Nat){a:Nat}(v:Nat):(N9 f).setIfInBounds a (.int .u64 (v:Nat))=N9 (fun i=>if i=a then v else f i):=by
 apply Array.ext_getElem?;intro i;rw[qd6];by_cases hi:i<512
 ·have e:=aQ (fun i=>if i=a then v else f i) hi;rw[e];by_cases ha:a=i
  ·subst ha;rw[x9 rfl,x9 (by rw[Bk];exact hi),x9 rfl]
  ·rw[z9 ha,z9 (W5 ha),aQ f hi]
 ·have h1: ∀g,(N9 g)[i]? =none:=fun g=>FU (by rw[Bk];omega);rw[h1,h1];split
  ·rw[z9 (by rw[Bk];omega)]
  ·rfl
theorem Lz {g:Nat→Nat}(h: ∀i,i<512→f i=g i):N9 f=N9 g:=by
 have e:(List.range 512).map (fun i=>Value.int .u64 (f i:Nat))=(List.range 512).map (fun i=>Value.int .u64 (g i:Nat)):=kH (fun i hi=>by rw[h i (Gj.1 hi)]);exact congrArg List.toArray e
theorem qr7: ∀w,(zeroValue 247).run Tryz.prog w= .ok (.agg (N9 (fun _=>0))) w:=(zero_of_info (n:=512) (by kernel_rfl)).1
theorem IC:(Tryz.prog.info? 247).map (·.size)=some 512:=by kernel_rfl
theorem TI {rest:List Oper}{g:Nat}(hb:j4 w g 247 (N9 f))
  (h:wpList Tryz.prog ops Q rest (a.put o.dst (.agg (N9 f))) w) (Cn:o.guard=none:=by rfl) (ho:o.op= .load 247 x:=by rfl) (hx:a.eval x= .pointer (some ⟨g,0,none⟩):=by rfl):wpList Tryz.prog ops Q (o::rest) a w:=
 wpList_load_row Cn 247 x ho g hx 247 (N9 f) (0,0) _ hb Tryz.underlying247 rfl (by rw[Bk];exact IC) h
theorem SA {rest:List Oper}{y:Operand}{g:Nat}{f':Nat→Nat}(hb:j4 w g 247 (N9 f))
  (h: ∀w',j4 w' g 247 (N9 f')→z6 [g] w w'→wpList Tryz.prog ops Q rest (a.put o.dst undef) w') (Cn:o.guard=none:=by rfl) (ho:o.op= .store 247 x y:=by rfl) (hx:a.eval x= .pointer (some ⟨g,0,none⟩):=by rfl) (hy:a.eval y= .agg (N9 f'):=by rfl):wpList Tryz.prog ops Q (o::rest) a w:=
 Am (ty:=247) (cs:=N9 f) (cs':=N9 f') (by rw[Bk];exact IC) (by rw[Bk,Bk]) (NO f') hb h Cn ho hx hy
def EB (D:List Dx)(s:Nat):Nat:=D.foldl (fun v d=>if d.st=(s:Int)then 1 ||| C4 d.ch else v) 0
theorem uW {D:List Dx}(hk:k<D.length)(s:Nat):EB (D.take (k+1)) s=if D[k].st=(s:Int)then 1 ||| C4 D[k].ch else EB (D.take k) s:=by
 unfold EB;rw[Cw hk,kJ];rfl
theorem yn (hp:j8 p)(s:Nat): ∀k,k≤p.D.length→EB (p.D.take k) s=if y8 p (s:Int)=true∧G8 p (s:Int)<k then 1 ||| C4 (p.D.getD (G8 p (s:Int)) ⟨0,[]⟩).ch else 0
 | 0,_=>by simp[EB]
 | k+1,hk=>by
  have Qi:k<p.D.length:=hk;rw[uW Qi,yn hp s k (by omega)];by_cases h1:p.D[k].st=(s:Int)
  ·have h2:sd p k=(s:Int):=by rw[Ff Qi,h1]
   have h3:G8 p (s:Int)=k:=by rw[←h2];exact hp.ix Qi
   have h4:y8 p (s:Int)=true:=by rw[←h2];exact dD Qi
   rw[x9 h1,x9 ⟨h4,by omega⟩,h3,Bz,j6 Qi];rfl
  ·rw[z9 h1];by_cases h2:y8 p (s:Int)=true∧G8 p (s:Int)<k
   ·rw[x9 h2,x9 ⟨h2.1,by omega⟩]
   ·rw[z9 h2,z9];rintro⟨h3,h4⟩;have h5:G8 p (s:Int)=k:=Nat.le_antisymm (Nat.lt_succ_iff.1 h4) (Nat.not_lt.1 (fun h6=>h2 ⟨h3,h6⟩));obtain⟨h7,h8⟩:=X0 h3;rw[Ff h7]at h8;subst h5;exact h1 h8
theorem UK (hp:j8 p)(s:Nat):EB p.D s=Rr p (s:Int):=by
 have h:=yn hp s p.D.length (a9 _);rw[cO]at h;rw[h];unfold Rr;by_cases h1:y8 p (s:Int)=true
 ·rw[x9 ⟨h1,(X0 h1).1⟩,x9 h1]
 ·rw[z9 (fun h2=>h1 h2.1),z9 h1]
def qy4 (w1:World)(g2:Nat)(D:List Dx)(ti:Value)(wr:World):Prop:= ∃k:Nat,k≤D.length∧ti= .int .i64 k∧z6 [g2] w1 wr∧Hid (j4 wr g2 247 (N9 (EB (D.take k))))
def OR (F:Nat→Nat)(n:Nat)(ch:List Int)(s:Nat):Nat:=if s=n then 1 ||| C4 ch else F s
def qy5 (w1:World)(g2:Nat)(F:Nat→Nat)(n:Nat)(ch:List Int)(ti:Value)(wr:World):Prop:= ∃j:Nat,j≤ch.length∧ti= .int .i64 j∧z6 [g2] w1 wr∧Hid (j4 wr g2 247 (N9 (OR F n (ch.take j))))
theorem wK (VD VP VL VC:Value)(p:Px)(w:World)(hp:j8 p)(hn:Dz p.D)(hl:p.D.length≤512)(hD:C0 w VD p.D):Calls Tryz.prog 167 #[.agg #[VD,VP,VL,VC]] w fun r w'=>r= .returned (.agg (N9 (fun s=>Rr p (s:Int))))∧z6 [] w w':=by
 obtain⟨A,cap,rfl,Ad,Cs⟩:=hD.form;have HD:=p7 (fun W t=>hD.q8 t)
 have CY:Hid (∀x∈p.D,(0≤x.st∧x.st<512)∧ ∀c∈x.ch,2≤c∧c≤51):=O (fun x hx=>by
  obtain⟨j,hj,rfl⟩:=Bg hx;have h1:=hp.sr j hj;rw[Ff hj]at h1
  exact⟨by omega,hn.rg _ hx⟩)
 have EO:Hid (N9 (EB p.D)=N9 (fun s=>Rr p (s:Int))):=O (Lz (fun s _=>UK hp s));have hz:=qr7;have Fw:z6 [] w (((w.alloc (.cells #[.slice A p.D.length cap,VP,VL,VC] 29)).alloc (.cells (N9 (fun _=>0)) 247)).alloc (.cells (N9 (fun _=>0)) 247)):=(((z8 [] w).alloc _).alloc _).alloc _;have b0:=((j4.new w 29 #[.slice A p.D.length cap,VP,VL,VC]).alloc (.cells (N9 (fun _=>0)) 247)).alloc (.cells (N9 (fun _=>0)) 247);have b1:=(j4.new (w.alloc (.cells #[.slice A p.D.length cap,VP,VL,VC] 29)) 247 (N9 (fun _=>0))).alloc (.cells (N9 (fun _=>0)) 247);have b2:=j4.new ((w.alloc (.cells #[.slice A p.D.length cap,VP,VL,VC] 29)).alloc (.cells (N9 (fun _=>0)) 247)) 247 (N9 (fun _=>0));simp only[World.size_alloc]at b1 b2;have q0:=(b0.cell 0).trans rfl;clear hD hn hp;go_enter Tryz.func167,Tryz.ntmps167;go_wp2_with fail;generalize El:(((w.alloc _).alloc _).alloc _)=w1 at b0 b1 b2 Fw q0⊢;clear El;obtain⟨g0,hg⟩: ∃g0,g0=w.heap.size:=⟨_,rfl⟩;rw[←hg]at b1 b2⊢;have bL:=O hg;have Ag:=O b1;have O5:=O b2;have V0:=O Fw;clear hg b0 b1 b2 Fw hz q0;have gS:=O (fun(W:World) (t:z6 [g0+1+1] w1 W)=>V0.o.step t (fun m hm=> .inr (by rw[y7]at hm;have:=bL.o;omega)));go_loopw [11] (fun ti wr=>qy4 w1 (g0+1+1) p.D ti wr) (fun ti _=>p.D.length - (intOf ti).toNat)
 case atStart=>exact⟨0,by omega,rfl,z8 _ _,O (by have e:EB (p.D.take 0)=fun _=>0:=(by funext s;simp[EB]);rw[e];exact O5.o)⟩
 case round=>
  clear O5;obtain⟨k,hk,rfl,ht,Hm⟩:=hrel;have TW:=O (gS.o wr ht);by_cases Z:k<p.D.length
  ·have j1:(k:Int)< (p.D.length:Int):=by omega
   have hHD:=HD.o w (z8 _ _);obtain⟨b,off,c,rfl,hb,-,N0⟩:=hHD.at_ Z;obtain⟨c0,c1,B8⟩:=N0 wr TW.o;obtain⟨A2,X2,rfl⟩:=B8.form;obtain⟨⟨s1,s2⟩,s3⟩:=CY.o _ (k8 Z);have Q9:=O (fun s=>uW Z s);obtain⟨n,gP⟩:=K5 s1;have jS:Hid (∀W,z6 [] w W→e8 W (.slice A2 p.D[k].ch.length X2) p.D[k].ch):=O (fun W t=>(N0 W t).2.2);have HCR:=O s3;rw[gP]at c0 s2 Q9;generalize p.D[k].ch=ch at*;generalize EB (p.D.take k)=F at*;have OL:(n:Int)<512:=by omega
   have vw:(0:Int)≤(n:Int):=by omega
   have S_:Hid (n<512):=O (by omega);have hT1:=ht.alloc (.cells #[.int .i64 n,.slice A2 ch.length X2] 75);have BX:=j4.new wr 75 #[.int .i64 n,.slice A2 ch.length X2];have hB1:=Hm.o.alloc (.cells #[.int .i64 n,.slice A2 ch.length X2] 75);have q0:=(BX.cell 0).trans rfl;have q1:=(BX.cell 1).trans rfl;have f1:=(hB1.cell n).trans (aQ F S_.o);have f2:=hB1.frozen n;have f3:=hB1.lt;have J6:=O hT1;have Kw:=O hB1;have N6:=O BX;have Vv:Hid (wr.heap.size≠g0+1+1):=O (by have:=Hm.o.lt;omega);clear B8 hHD N0 hb s1 s2 s3 gP ht hk Hm hT1 hB1 BX;go_upto_region 6 with fail
   have ts:z6 [g0+1+1] (wr.alloc (.cells #[.int .i64 n,.slice A2 ch.length X2] 75)) ((wr.alloc (.cells #[.int .i64 n,.slice A2 ch.length X2] 75)).setCell ⟨g0+1+1,n,none⟩ (.int .u64 1)):=(z8 [g0+1+1] _).setCell (.inl (by simp)) _;have K8:=O (J6.o.trans ts);have HX5:=O (N6.o.z7 ts (by have:=Vv.o;simpa using this))
   have HB5:Hid (j4 ((wr.alloc (.cells #[.int .i64 n,.slice A2 ch.length X2] 75)).setCell ⟨g0+1+1,n,none⟩ (.int .u64 1)) (g0+1+1) 247 (N9 (OR F n []))):=O (by
    have h:=Kw.o.V8 n (.int .u64 ((1:Nat):Nat));rw[vH]at h;have e:N9 (fun i=>if i=n then 1 else F i)=N9 (OR F n []):=Lz (fun i _=>by unfold OR;rfl);rw[e]at h
    exact h)
   clear q0 q1 f1 f2 f3 ts J6 N6 Kw;generalize (wr.alloc (.cells #[.int .i64 n,.slice A2 ch.length X2] 75)).setCell ⟨g0+1+1,n,none⟩ (.int .u64 1)=w5 at*;have q1:=(HX5.o.cell 1).trans rfl;generalize wr.heap.size=gx at*;go_wp2_with fail;clear q1 c0 c1;have HWN:=O (gS.o _ K8.o);generalize wr=wz at*;go_loopw [21] (fun ti wr=>qy5 w5 (g0+1+1) F n ch ti wr) (fun ti _=>ch.length - (intOf ti).toNat)
   case atStart=>exact⟨0,by omega,rfl,z8 _ _,HB5⟩
   case round=>
    obtain⟨j,hj,rfl,ht,HBJ⟩:=hrel;have HT:=O ht;have HX6:=O (HX5.o.z7 ht (by have:=Vv.o;simpa using this));by_cases Q7:j<ch.length
    ·have Jo:(j:Int)< (ch.length:Int):=by omega
     have B8:=jS.o wr (gS.o wr (K8.o.trans ht));obtain⟨b2,Hn,rfl,U3⟩:=B8.addr Q7;have c3:=e8.at_ B8 Q7;have hc:=HCR.o _ (k8 Q7);have yF:=B8.cap;have Z7:=lJ Q7;obtain⟨c,Ad⟩:=K5 (show 0≤ch[j] by omega);rw[Ad]at c3 Z7 hc;rw[X4]at Z7;have DS:=(aL (l:=ch.take j) (fun x hx=>HCR.o x (Qz hx))).lt;have HM:Hid (1 ||| C4 (ch.take (j+1))=(1 ||| C4 (ch.take j)) ||| 2^c):=O (by rw[Z7,Nat.or_assoc]);have qo1:1 ||| C4 (ch.take j)<18446744073709551616:=Nat.or_lt_two_pow (n:=64) (by decide) DS
     have f1:wr.cell? ⟨g0+1+1,n,none⟩=some (.int .u64 ((1 ||| C4 (ch.take j):Nat):Nat)):=by
      have h:=(HBJ.o.cell n).trans (aQ _ S_.o);rw[show OR F n (ch.take j) n=1 ||| C4 (ch.take j)from x9 rfl]at h;exact h
     have f2:=HBJ.o.frozen n;have f3:=HBJ.o.lt;have q0:=(HX6.o.cell 0).trans rfl
     have HU:Hid (bits .or .u64 ((1 ||| C4 (ch.take j):Nat):Int) (IntKind.u64.wrap (2^c))=(((1 ||| C4 (ch.take j)) ||| 2^c:Nat):Int)):=O (by
      rw[O8 c (by omega),show(((2^c:Nat):Int))=(2:Int)^c by simp]
      exact Nx _ c qo1 (by omega))
     have hc0: ¬(c:Int)<0:=by omega
     have ze7:c<64:=by omega
     have HSE:Hid (N9 (fun i=>if i=n then(1 ||| C4 (ch.take (j+1)))else OR F n (ch.take j) i)=N9 (OR F n (ch.take (j+1)))):=O (Lz (fun i _=>by
      unfold OR;by_cases hi:i=n
      ·rw[x9 hi,x9 hi]
      ·rw[z9 hi,z9 hi,z9 hi]))
     generalize (1 ||| C4 (ch.take j))=m at*;clear B8 Z7 hc Ad DS qo1 ht U3;go_wp2_with fail;go_region_with (fail)
     all_goals
      rw[HU.o];have HE:Hid (z6 [g0+1+1] w5 ((wr.setCell ⟨g0+1+1,n,none⟩ (.int .u64 ((m ||| 2^c:Nat):Int))).drew)∧j4 ((wr.setCell ⟨g0+1+1,n,none⟩ (.int .u64 ((m ||| 2^c:Nat):Int))).drew) (g0+1+1) 247 (N9 (OR F n (ch.take (j+1))))):=O ⟨(HT.o.setCell (.inl (by simp)) _).drewN 1,by rw[←HSE.o,HM.o,←vH];exact(HBJ.o.V8 n _).drew⟩;go_wp2_with fail;exact⟨⟨j+1,Q7,by go_num,HE.o.1,O HE.o.2⟩,by simp[intOf];omega⟩
    ·have Jo: ¬(j:Int)< (ch.length:Int):=by omega
     have HBF:Hid (j4 wr (g0+1+1) 247 (N9 (EB (p.D.take (k+1))))):=O (by
      have h:=HBJ.o;rw[N2 (by omega)]at h
      have e:N9 (OR F n ch)=N9 (EB (p.D.take (k+1))):=Lz (fun i _=>by
       rw[Q9.o];unfold OR;by_cases hi:i=n
       ·rw[x9 hi,x9 (by omega)]
       ·rw[z9 hi,z9 (by omega)])
      rw[←e]
      exact h)
     clear ht HBJ;go_wp2_with fail;exact⟨⟨k+1,Z,by go_num,K8.o.trans HT.o,HBF⟩,by simp[intOf];omega⟩
  ·have j1: ¬(k:Int)< (p.D.length:Int):=by omega
   have gX:=Hm.o;have Qj:=Ag.o.z7 ht (by simp);rw[N2 (by omega),EO.o]at gX;have gX:=O gX;have Qj:=O Qj;clear ht Hm;go_wp2_with (first | (refine TI gX.o ?_) | (refine SA Qj.o ?_;intro w7 b7 t7));refine bodyPost_ret (results_cell_row rfl _ w7 (g0+1) 247 (N9 (fun s=>Rr p (s:Int))) (0,0) _ rfl b7 Tryz.underlying247 rfl (by rw[Bk];exact IC)) rfl ⟨rfl,?_⟩;exact TW.o.step t7 (fun m hm=> .inr (by rw[y7]at hm;have:=bL.o;omega))
theorem K9.trans {ms1 aV:List Nat}(h1:K9 p gs M0 ms1)(h2:K9 p gs (Z5 p ms1) aV):K9 p gs M0 aV:=
 ⟨h2.Fv,fun s c h=>h1.sub s c (h2.sub s c h),fun S h0 hs=>h2.hold S (h1.hold S h0 hs) hs⟩
theorem K9.za0 (h:G5 p ms):K9 p gs (Z5 p ms) ms:=⟨h,fun _ _ h=>h,S7.start _ _ _⟩
theorem jn: ∀(a b:List Nat),a.length=b.length→(∀i,wd a i≤wd b i)→a.sum≤b.sum
 | [],[],_,_=>a9 _
 | [],_::_,h,_=>by simp at h
 | _::_,[],h,_=>by simp at h
 | x::a,y::b,h,hle=>by
  have h1:=hle 0;have h2:=jn a b (by simpa using h) (fun i=>by have:=hle (i+1);simpa[wd]using this);simp only[wd,List.getD_cons_zero]at h1;simp only[Hy];omega
theorem py (hp:j8 p){a b:List Nat}(ha:G5 p a)(hb:G5 p b)(h:Qq (Z5 p a) (Z5 p b)): ∀i,wd a i≤wd b i:=fun i=>by
 by_cases hi:i<p.D.length
 ·refine Nat.le_of_testBit (fun j hj=> ?_);have h1:=h (sd p i) (j:Int) ((left_at hp hi).2 ⟨by omega,by rw[X4];exact hj⟩);have h2:=((left_at hp hi).1 h1).2
  rwa [X4]at h2
 ·have h1:wd a i=0:=by unfold wd;rw[Bz,Ra (by rw[ha.len];omega)];rfl
  rw[h1];exact O2 _
theorem zm (hp:j8 p){Fj:List Nat}(hw:G5 p ms){c:Nat}(hi:i<p.D.length)(hb:(wd ms i).testBit c=true)(h:K9 p gs (Z5 p (ms.set i (J7 (wd ms i) (2^c)))) Fj):Fj.sum<ms.sum:=by
 have mz:i<ms.length:=by rw[hw.len];exact hi
 have aY:=hw.set hi ((hw.bits i).J7 (2^c));have h1:=jn _ _ (by rw[h.Fv.len,aY.len]) (py hp h.Fv aY h.sub);have h2:=oD (ms:=ms) (i:=i) (m:=J7 (wd ms i) (2^c)) mz
 have h3:J7 (wd ms i) (2^c)<wd ms i:=VF (fun e=>by
  have:=F8 (wd ms i) (2^c) c;rw[e,hb,Gu,b_ rfl]at this
  cases this)
 omega
theorem LR (hk:Ml p g)(h:2≤(M3 p ms g).length): ∃y∈M3 p ms g,∃z∈M3 p ms g,y.a≠z.a:=by
 have hp:=Hc (f:=Cx.a) (Fs.1 hk.c).2;have xG:(M3 p ms g).Pairwise (fun x y=>x.a<y.a):=hp.filter _;generalize M3 p ms g=o at*
 match o,h,xG with
 | y::z::t,_,hp3=>
  have:=(Yh.1 hp3).1 z (by simp);exact⟨y,by simp,z,by simp,by omega⟩
theorem pY (hp:j8 p)(hw:G5 p ms)(X3: ∀k,k<p.D.length→wd ms k≠0)(hk:Ml p g)(h:Lr p ms g c false): ∀s b,Z5 p ms s b→ ¬((∃y∈g,y.a=s∧y.b=b)∧ ∀y∈g,y.a≠s→F5 (Z5 p ms) y.a y.b):=fun s b hl=>by
 rcases h with⟨h1,-⟩ | ⟨-,h1,-⟩ | ⟨h1,h2⟩
 ·exact lE hp hw X3 hk (.inl (LR hk h1)) hl
 ·cases h1
 ·refine lE hp hw X3 hk (.inr ⟨c,by rw[h1];simp,fun e=> ?_⟩) hl;obtain⟨j,hj,e1,h3,h4⟩:=e;have e2:G8 p c.a=j:=by rw[←e1];exact hp.ix hj
  rw[e2,h4]at h2;cases h2
theorem zh (hp:j8 p)(hw:G5 p ms)(hg:g∈gs)(hk:Ml p g)(X3:g≠ [])(h:Lr p ms g c true):c∈g∧dN gs (Z5 p ms) c.a c.b:=by
 rcases h with⟨-,h1⟩ | ⟨h1,-,h2⟩ | ⟨h1,-⟩
 ·cases h1
 ·have hc:c∈g:=by
   rcases h2 with h2 | h2
   ·exact absurd h2 X3
   ·exact h2
  exact⟨hc,fM hp hw hg hk hc (fun z hz=>by rw[h1]at hz;cases hz)⟩
 ·have hc:c∈g:=by
   have:c∈M3 p ms g:=by rw[h1];simp
   exact(G4.1 this).1
  exact⟨hc,fM hp hw hg hk hc (fun z hz=>by rw[h1]at hz;simpa using hz)⟩
theorem zf (hp:j8 p)(hw:G5 p ms)(hk:Ml p g)(hc:c∈g)(h:Lr p ms g c true):(wd ms (G8 p c.a)).testBit c.b.toNat=true:=by
 obtain⟨h5,h6,h7⟩:=hk.has c hc;rcases h with⟨-,h1⟩ | ⟨h1,-,h2⟩ | ⟨h1,h2⟩
 ·cases h1
 ·have h3:wh p ms c.a=c.b:=Bh (fun e=>by
   have:c∈M3 p ms g:=G4.2 ⟨hc,by simpa using e⟩;rw[h1]at this
   cases this)
  unfold wh at h3;have h4:=(oH (hw.bits (G8 p c.a)) (by rw[h3];omega)).2.2.2;rw[h3]at h4;exact h4
 ·exact h2.symm
theorem pT {d:List Dx}:Qq (J1 (Z0 d l)) (J1 (Z0 d (l.take k))):=fun s c h=>by
 obtain⟨h1,h2⟩:=(Mc l d).1 h;exact(Mc (l.take k) d).2 ⟨h1,fun y hy=>h2 y (Qz hy)⟩
theorem zg (hp:j8 p)(h:K9 p gs (J1 (Z0 p.D (l.take k))) ms)(hg:yO p ms):Hs p gs l:=uP hp (h.hold.narrow pT) hg
theorem AJ (hp:j8 p)(h:K9 p gs (J1 (Z0 p.D l)) ms)(hg:yO p ms):Hs p gs l:=uP hp h.hold hg
theorem lc (hp:j8 p)(h:K9 p gs (J1 (Z0 p.D l)) ms)(hr:Rest p ms)(hq: ∀g∈gs,∀s c,Z5 p ms s c→ ¬((∃y∈g,y.a=s∧y.b=c)∧ ∀y∈g,y.a≠s→F5 (Z5 p ms) y.a y.b))(hg: ∀g∈gs,g≠ []): ¬Hs p gs l:=fun hf=>hf (lf hp h hr.1 (pQ hp h.Fv hr hq) hg)
theorem wG {g cap:Nat}(hu:xL w0 tb p vs vp vc vi vf)(h:Vk w0 w sp tb g cap p ms false)(hw:G5 p ms)(hr:Rest p ms)(s:Int)(c:Nat)(hs:y8 p s=true)(Ad:2≤c)(Cs:c≤51)(Qn:K9 p gs M0 (ms.set (G8 p s) (J7 (wd ms (G8 p s)) (2^c)))):Calls Tryz.prog 220 #[.pointer (some ⟨sp,0,none⟩),.agg #[.int .i64 s,.int .i64 c]] w fun r w'=>r= .returned (.int .i64 0)∧JY w0 sp tb g cap p gs M0 w w':=by
 have TA:=(z8 [] w).alloc (.cells #[.int .i64 s,.int .i64 c] 53);have BX:=j4.new w 53 #[.int .i64 s,.int .i64 c];have hA:=h.q8 TA;have HCK:=O (fA hu hA s c hs (by omega) (by omega));obtain⟨h1,h2⟩:=X0 hs;have HCU:=O (fun(W:World) (t:z6 [] (w.alloc (.cells #[.int .i64 s,.int .i64 c] 53)) W)=>yp sp tb g cap p vs vp vc vi vf gs M0 ms (G8 p s) (2^c) w0 W hu.hp hu.we (hA.q8 t).t0 hu.at_ hu.t64 h.Vq h.hg h.X3 (hA.q8 t).Bo (hA.q8 t).st (hA.q8 t).lb hw hr h1 (dQ (by omega)) Qn);have q0:=(BX.cell 0).trans rfl;have q1:=(BX.cell 1).trans rfl;have Q9:=O (fun(W W':World) (t:z6 [] w W) (q:Gv sp tb g cap p gs M0 W W')=>Gv.st (h.q8 t) q);have V0:=O TA;have N6:=O BX;have qc6:c<64:=by omega
 have U1:=O (O8 c (by omega));have vw: ¬(c:Int)<0:=by omega
 generalize G8 p s=ix at*;clear TA BX hA h hu hw hr h1 h2 hs Ad Cs Qn;go_enter Tryz.func220,Tryz.ntmps220;go_wp2_with fail;refine HCK.o.mono ?_;rintro r w1 ⟨rfl,t1⟩;have VO:=((N6.o.z7 t1 (by simp)).cell 1).trans rfl;have J6:=O t1;clear q0 q1 t1 N6;go_upto_region 3 with fail
 go_wp2_with fail;rw[U1.o];refine(HCU.o _ J6.o).mono ?_;rintro r w2 ⟨rfl,xG⟩;obtain⟨Fj,jP,g1,g2,g3,g4⟩:=Q9.o _ _ (V0.o.Y J6.o) xG;go_wp2_with fail;go_ret;exact⟨rfl,Fj,jP,g1,g2,g3,((z8 [sp,g] w).Y (V0.o.Y J6.o)).trans g4⟩
end Go.Proofs.YtlhlmcohdkkjpaaGreatDoor
