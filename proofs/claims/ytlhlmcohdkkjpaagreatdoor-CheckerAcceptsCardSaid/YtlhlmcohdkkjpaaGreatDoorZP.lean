/- Package propagate: how its tables and its state lie in memory. -/
import Derived.Test.YtlhlmcohdkkjpaaGreatDoorZO
set_option linter.all false
set_option maxHeartbeats 8000000
set_option maxRecDepth 100000
namespace Go.Proofs.YtlhlmcohdkkjpaaGreatDoor
open Go.RowKit
section
variable {w w':World}{e:TypeId}{g n cap:Nat}{xs:List Value}{L:List Nat}
variable{k:Nat}
theorem Own.cN (h:Own w e 1 (.slice (some ⟨g,0,none⟩) n cap) n xs)(hk:k<n){u:Value}(hu:xs[k]? =some u):w.cell? ⟨g,k,none⟩=some u:=by
 obtain⟨h1,h2⟩:=h;rcases h2 with⟨e1,-⟩ | ⟨g',Ak,cur,e1,h3,h4,h5,h6,h7,h8⟩
 ·cases e1
 ·injection e1 with e1 _ e2;injection e1 with e1;injection e1 with e1;subst e1;have h9:j4 w g e cur:=h4;rw[h9.cell k,←iM,←hu,←h8,Tw,x9 (by omega)]
theorem Own.aN (h:Own w e 1 (.slice (some ⟨g,0,none⟩) n cap) n xs)(k:Nat):w.frozen? ⟨g,k,none⟩=false:=by
 obtain⟨h1,h2⟩:=h;rcases h2 with⟨e1,-⟩ | ⟨g',Ak,cur,e1,h3,h4,h5,h6,h7,h8⟩
 ·cases e1
 ·injection e1 with e1 _ e2;injection e1 with e1;injection e1 with e1;subst e1;have h9:j4 w g e cur:=h4;exact h9.frozen k
theorem Own.ql6 (h:Own w e 1 (.slice (some ⟨g,0,none⟩) n cap) n xs)(k:Nat)(u:Value):Own (w.setCell ⟨g,k,none⟩ u) e 1 (.slice (some ⟨g,0,none⟩) n cap) n (xs.set k u)∧z6 [g] w (w.setCell ⟨g,k,none⟩ u):=by
 obtain⟨h1,h2⟩:=h;rcases h2 with⟨e1,-⟩ | ⟨g',Ak,cur,e1,h3,h4,h5,h6,h7,h8⟩
 ·cases e1
 ·injection e1 with e1 _ e2;injection e1 with e1;injection e1 with e1;subst e1 e2;have h9:j4 w g e cur:=h4;refine⟨⟨by rw[Nt];exact h1,.inr ⟨g,cap,_,rfl,h3,h9.V8 k u,h5,h6,by simpa using h7,?_⟩⟩,(z8 [g] w).setCell (.inl (by simp)) u⟩;rw[Array.toList_setIfInBounds,List.take_set,h8]
end
variable{ms ws:List Nat}{k g a:Nat}{p:Px}{α:Type}{lv:Value}{w w':World}{l:List α}{f:α→Nat→Prop}
def C8 (c:Nat)(f:α→List Value)(fit:α→Prop)(w:World)(v:Value)(ls:List (List α)):Prop:= ∃K1:List Value,K1.length=ls.length∧Reads w 1 v ls.length K1∧ ∀(j:Nat) l u,ls[j]? =some l→K1[j]? =some u→C7 c f fit w u l
section
variable {α:Type}{c:Nat}{f:α→List Value}{fit:α→Prop}{w w':World}{v:Value}{ls:List (List α)}
theorem C8.q8 (h:C8 c f fit w v ls)(t:z6 [] w w'):C8 c f fit w' v ls:=by
 obtain⟨K1,h1,h2,h3⟩:=h;exact⟨K1,h1,Reads.q8 h2 t,fun j l u hl hu=>(h3 j l u hl hu).q8 t⟩
theorem C8.form (h:C8 c f fit w v ls): ∃A cap,v= .slice A ls.length cap:=by
 obtain⟨K1,h1,⟨A,cap,rfl,-⟩,-⟩:=h;exact⟨A,cap,rfl⟩
theorem C8.at_ {A:Option Addr}{cap:Nat}(h:C8 c f fit w (.slice A ls.length cap) ls)(hk:k<ls.length): ∃b off u,A=some ⟨b,off,none⟩∧b<w.heap.size∧w.cell? ⟨b,off+k,none⟩=some u∧C7 c f fit w u ls[k]:=by
 obtain⟨K1,h1,⟨A',Ak,e,h2,h3,h4,h5⟩,h6⟩:=h;injection e with e1 e2 e3;subst e1;obtain⟨b,off,rfl,hb,hc⟩:=h5 (by omega);have CI:k<K1.length:=by omega
 exact⟨b,off,K1[k],rfl,hb,hc k _ (j6 CI),h6 k _ _ (j6 hk) (j6 CI)⟩
end
def CA (p:Px)(s:Int):Int:=if y8 p s then(G8 p s:Int)+1 else 0
def DI (p:Px)(f:Px→Nat→List α):List (List α):=(List.range p.D.length).map (f p)
theorem M6 (p:Px)(f:Px→Nat→List α):(DI p f).length=p.D.length:=by simp[DI]
theorem Rz {f:Px→Nat→List α}{i:Nat}(hi:i< (DI p f).length):(DI p f)[i]=f p i:=by simp[DI]
structure Tg (w:World)(tb:Nat)(p:Px)(vs vp vc vi vf:Value):Prop where
 lt:tb<w.heap.size
 c0:w.cell? ⟨tb,0,none⟩=some vs
 ix: ∀s:Nat,s<512→w.cell? ⟨tb,1+s,none⟩=some (.int .i64 (CA p s))
 cp:w.cell? ⟨tb,514,none⟩=some vp
 cc:w.cell? ⟨tb,515,none⟩=some vc
 ci:w.cell? ⟨tb,516,none⟩=some vi
 cf:w.cell? ⟨tb,517,none⟩=some vf
 st:e8 w vs (l5 p.D)
 rp:C8 5 Q5.cells Q5.Fit w vp (DI p y9)
 rc:C8 4 Q4.cells Q4.Fit w vc (DI p s9)
 ri:C8 5 Q5.cells Q5.Fit w vi (DI p a_)
 rf:C8 5 Q5.cells Q5.Fit w vf (DI p s6)
theorem Tg.q8 {tb:Nat}{vs vp vc vi vf:Value}(h:Tg w tb p vs vp vc vi vf)(t:z6 [] w w'):Tg w' tb p vs vp vc vi vf:=
 have hc: ∀k,w'.cell? ⟨tb,k,none⟩=w.cell? ⟨tb,k,none⟩:=fun k=>t.cell (p:=⟨tb,k,none⟩) h.lt (by simp)
 ⟨W6 h.lt t.size,(hc _).trans h.c0,fun s hs=>(hc _).trans (h.ix s hs),(hc _).trans h.cp,(hc _).trans h.cc,(hc _).trans h.ci,(hc _).trans h.cf,h.st.q8 t,h.rp.q8 t,h.rc.q8 t,h.ri.q8 t,h.rf.q8 t⟩
def LB (w:World)(lv:Value)(ms:List Nat):Prop:=Own w 66 1 lv ms.length (ms.map y6)
theorem LB.z7 {L:List Nat}(h:LB w lv ms)(t:z6 L w w')(hL: ∀b∈m5 lv,b∉L):LB w' lv ms:=Own.z7 h t hL
theorem LB.q8 (h:LB w lv ms)(t:z6 [] w w'):LB w' lv ms:=Own.q8 h t
theorem LB.at_ {cap:Nat}(h:LB w (.slice (some ⟨g,0,none⟩) ms.length cap) ms)(hk:k<ms.length):w.cell? ⟨g,k,none⟩=some (.int .u64 (ms[k]:Nat)):=
 Own.cN h hk (by simp[Jq,j6 hk,y6])
theorem LB.addr (h:LB w lv ms)(hk:k<ms.length): ∃g cap,lv= .slice (some ⟨g,0,none⟩) ms.length cap:=by
 obtain⟨h1,h2⟩:=h;rcases h2 with⟨e1,e2⟩ | ⟨g',Ak,cur,e1,-⟩
 ·omega
 ·exact⟨g',Ak,e1⟩
theorem LB.put {cap:Nat}(h:LB w (.slice (some ⟨g,0,none⟩) ms.length cap) ms)(k m:Nat):LB (w.setCell ⟨g,k,none⟩ (.int .u64 (m:Nat))) (.slice (some ⟨g,0,none⟩) (ms.set k m).length cap) (ms.set k m)∧z6 [g] w (w.setCell ⟨g,k,none⟩ (.int .u64 (m:Nat))):=by
 obtain⟨h1,h2⟩:=Own.ql6 h k (.int .u64 (m:Nat));refine⟨?_,h2⟩;unfold LB;rw[Nt,List.map_set];exact h1
theorem Uz {b:Nat}(ha:a<18446744073709551616)(hb:b<18446744073709551616):bits .andNot .u64 (a:Int) (b:Int)=((J7 a b:Nat):Int):=by
 rw[u64_andNot_nat a b ha hb]
 congr 1
 refine sX (fun j=> ?_);have e:18446744073709551615 - b=2^64 - (b+1):=by omega
 rw[Le,F8,e,dK (show b<2^64 from hb)];by_cases hj:j<64
 ·rw[b_ hj,Z4]
 ·have:a.testBit j=false:=Nat.testBit_lt_two_pow (W6 (show a<2^64 from ha) (Nat.pow_le_pow_right (by omega) (by omega)));rw[this,B6,B6]
theorem Om (sp:Nat)(tv cv lv:Value)(ms:List Nat)(i:Nat)(w:World)(hS:j4 w sp 305 #[tv,lv,cv])(hL:LB w lv ms)(hi:i<ms.length)(hb:Aq (wd ms i))(hT:Y1 w):Calls Tryz.prog 262 #[.pointer (some ⟨sp,0,none⟩),.int .i64 i] w fun r w'=>r= .returned (.int .i64 (n7 (wd ms i)))∧z6 [] w w':=by
 obtain⟨g,cap,rfl⟩:=hL.addr hi;have c1:w.cell? ⟨sp,1,none⟩=some (.slice (some ⟨g,0,none⟩) ms.length cap):=(hS.cell 1).trans rfl;have c2:=hL.at_ hi;rw[←Tl hi]at c2;have Z:=hb.lt;have Xt:(i:Int)< (ms.length:Int):=by omega
 clear hL hS hb;generalize wd ms i=m at*;have D6:=O (fun(h0:m≠0)=>tK m Z h0 w hT);unfold n7;by_cases h0:m=0
 ·subst h0;rw[z9 (fun h=>h.1 rfl)];go_enter Tryz.func262,Tryz.ntmps262;go_wp2_with fail;go_ret;exact⟨rfl,z8 _ _⟩
 ·have HZ:=O (D6.o h0);have e0:((m:Int) !=0)=true:=by simpa using h0
  have e1:IntKind.u64.wrap ((m:Int) - 1)=((m - 1:Nat):Int):=by rw[IntKind.wrap_u64];omega
  have e2:=u64_and_nat m (m - 1) Z (by omega);by_cases h1:m&&&(m - 1)=0
  ·rw[x9 ⟨h0,h1⟩];rw[h1]at e2;clear D6 h1;go_enter Tryz.func262,Tryz.ntmps262;go_wp2_with (first | rw[e1] | rw[e2]);refine HZ.o.mono ?_;rintro r w1 ⟨rfl,rfl⟩;go_wp2_with fail;go_ret;exact⟨rfl,z8 _ _⟩
  ·rw[z9 (fun h=>h1 h.2)];have e3:(((m&&&(m - 1):Nat):Int)==0)=false:=by simpa using h1
   clear D6 HZ h1;go_enter Tryz.func262,Tryz.ntmps262;go_wp2_with (first | rw[e1] | rw[e2]);go_ret;exact⟨rfl,z8 _ _⟩
def qw7 (w:World)(l:List Int)(tm ti:Value)(wr:World):Prop:= ∃k:Nat,k≤l.length∧ti= .int .i64 k∧tm= .int .u64 (C4 (l.take k):Nat)∧z6 [] w wr
theorem ME (v:Value)(l:List Int)(w:World)(hv:e8 w v l)(hl: ∀c∈l,2≤c∧c≤51)(hn:l.length≤100000):Calls Tryz.prog 213 #[v] w fun r w'=>r= .returned (.int .u64 (C4 l:Nat))∧z6 [] w w':=by
 have HV:=p7 (fun W t=>hv.q8 t);have HL:=O hl;have HM:=O (fun(k:Nat)=>(aL (l:=l.take k) (fun c hc=>hl c (Qz hc))).lt);obtain⟨A,cap,rfl⟩:=hv.form;clear hv hl;go_enter Tryz.func213,Tryz.ntmps213;go_wp2_with fail;go_loopw [3,8] (fun tm ti wr=>qw7 w l tm ti wr) (fun _ ti _=>l.length - (intOf ti).toNat)
 case atStart=>exact⟨0,by omega,rfl,rfl,z8 _ _⟩
 case round=>
  obtain⟨k,hk,rfl,rfl,ht⟩:=hrel;by_cases Z:k<l.length
  ·have j1:(k:Int)< (l.length:Int):=by omega
   have B8:=HV.o wr ht;obtain⟨b,off,rfl,hb⟩:=B8.addr Z;have c3:=e8.at_ B8 Z;have hc:=HL.o _ (k8 Z);have Z7:=lJ Z;obtain⟨n,Pk⟩:=K5 (show 0≤l[k] by omega);rw[Pk]at c3 Z7 hc;rw[X4]at Z7;have PK:=HM.o k;have e1:=O8 n (by omega);have e2:=Nx (C4 (l.take k)) n PK (by omega);have Q9:=O Z7;have vw: ¬(n:Int)<0:=by omega
   have HT:=O ht;clear B8 Z7 Pk PK ht;generalize C4 (l.take k)=m at*;go_wp2_with (first | rw[e1] | rw[e2]);exact⟨⟨k+1,by omega,by go_num,by rw[Q9.o],HT.o⟩,by simp[intOf];omega⟩
  ·have j1: ¬(k:Int)< (l.length:Int):=by omega
   have e:l.take k=l:=N2 (by omega);rw[e];go_wp2_with fail;go_ret;exact⟨rfl,ht⟩
theorem LZ (gb np:Nat)(ws:List Nat)(hw:Wf ws)(k:Nat)(hk:k<512)(w:World)(hb:j4 w gb 335 #[.pointer (some ⟨np,0,none⟩)])(hn:j4 w np 69 ((ws.map y6).toArray))(X3:gb≠np):Calls Tryz.prog 263 #[.int .i64 k,.pointer (some ⟨gb,0,none⟩)] w fun r w'=>r= .returned (.tuple #[])∧j4 w' np 69 (((Dy ws k).map y6).toArray)∧z6 [np] w w':=by
 have hs:=m8 hw;have CG:=m8 (Lp hw hk);have OP:=V7 (Dy ws k);have HA:=O (fun W=>KT ws hw k hk W);unfold T5 at HA;generalize ((Dy ws k).map y6).toArray=cs' at*;generalize (ws.map y6).toArray=cs at*;obtain⟨x0,x1,x2,x3,x4,x5,x6,x7,rfl⟩:=qd4 hs;have DX:gb∉ [np]:=by simpa using X3
 have HB:=O (fun(W:World) (t:z6 [np] w W)=>((hb.z7 t DX).cell 0).trans rfl);have HN:=p7 (fun W t=>hn.z7 t (by simp));have HN8:=p7 (fun W t=>(HN.o W t).qd5);clear hw hb hn;go_enter Tryz.func263,Tryz.ntmps263;go_wp2_with fail;refine wp_region_held_drew (S:=fun W=>z6 [np] w W) (by kernel_rfl) (z8 [np] w).drew (fun hS=> ?_);refine kw 0 hS ?_ (hy:=by intro W m7;have e:=HB.o W m7;go_simp<;>rfl);refine kw 1 hS ?_ (hy:=by intro W m7;have e:=HB.o W m7;go_simp<;>rfl);refine kw 2 hS ?_;refine kw 4 hS ?_;obtain⟨e0,e1,e2,e3,e4,e5,e6,e7⟩:=HN8.o w.drew (z8 [] w).drew;refine s8 3 rfl (fun K hK=> ?_);go_simp;refine zk6 hK hS ?_;clear hK K;refine s8 5 rfl (fun K hK=> ?_);go_simp;refine(HA.o _).mono ?_;rintro r w2 ⟨rfl,t2'⟩;have t2:=(z8 [] w).drew.Y t2';have p8:=(z8 [np] w).Y t2;go_wp2_with fail;refine zk6 hK p8 ?_;clear hK K;refine s8 6 rfl (fun K hK=> ?_);go_simp;refine zk6 hK p8 ?_;clear hK K;refine kw 7 p8 ?_;refine kw 8 p8 ?_;refine s8 9 rfl (fun K hK=> ?_);go_simp;refine zk6 hK p8 ?_;clear hK K;have V9:=Hd (HN.o _ t2) cs';refine s8 10 rfl (fun K hK=> ?_);refine wp_store_row 69 _ _ rfl np _ rfl rfl 69 _ (HN.o _ t2) (by rw[CG];kernel_rfl) (by rw[hs,CG]) OP (hK.o _ _ (p8.trans V9.2) (fun _=> ?_));clear hK K;refine wpAnyH_done (by kernel_rfl) ?_ _;go_wp2_with fail;go_end0;exact⟨rfl,V9.1,p8.trans V9.2⟩
structure wY (p:Px):Prop where
 dn:p.D.length≤512
 pn:p.R.P.length≤100000
 ln:p.R.L.length≤100000
 cn:p.R.C.length≤100000
theorem wY.XX (h:wY p)(i:Nat):(y9 p i).length≤100000:=by
 unfold y9;refine j9 (L3 _ _) ?_;rw[Cy];exact h.pn
theorem wY.EX (h:wY p)(i:Nat):(a_ p i).length≤100000:=by
 unfold a_;refine j9 (L3 _ _) ?_;rw[Cy];exact h.ln
theorem wY.from_ (h:wY p)(i:Nat):(s6 p i).length≤100000:=by
 unfold s6;refine j9 (L3 _ _) ?_;rw[Cy];exact h.ln
theorem wY.Jf (h:wY p)(i:Nat):(s9 p i).length≤100000:=by
 unfold s9;refine j9 (L3 _ _) ?_;rw[Cy];exact h.cn
def jt (w1:World)(np:Nat)(ws:List Nat)(G:Nat→Int→Prop)(n:Nat)(ti:Value)(wr:World):Prop:= ∃k:Nat,k≤n∧ti= .int .i64 k∧z6 [np] w1 wr∧ ∃qT,Wf qT∧j4 wr np 69 ((qT.map y6).toArray)∧ ∀j,Z1 qT j=true↔Z1 ws j=true∨ ∃m,m<k∧G m j
theorem Kh {PE Mn:List Nat}{G:Nat→Int→Prop}(h1: ∀j,Z1 PE j=true↔Z1 ws j=true∨ ∃m,m<k∧G m j)(h2: ∀j,Z1 Mn j=true↔Z1 PE j=true∨G k j): ∀j,Z1 Mn j=true↔Z1 ws j=true∨ ∃m,m<k+1∧G m j:=fun j=>by
 rw[h2,h1];constructor
 ·rintro((h | ⟨m,hm,h⟩) | h)
  ·exact .inl h
  ·exact .inr ⟨m,by omega,h⟩
  ·exact .inr ⟨k,by omega,h⟩
 ·rintro(h | ⟨m,hm,h⟩)
  ·exact .inl (.inl h)
  ·rcases Is.1 hm with h3 | h3
   ·exact .inl (.inr ⟨m,h3,h⟩)
   ·subst h3;exact .inr h
theorem aT (h:Wf ws)(ha:a<512){G:Int→Prop}(hG: ∀j,G j↔j=(a:Int)): ∀j,Z1 (Dy ws a) j=true↔Z1 ws j=true∨G j:=fun j=>by
 rw[vJ h ha,S9,G3,hG];exact Or.comm
theorem Od (hk:l.length≤k){P:α→Prop}:(∃m,m<k∧ ∃h:m<l.length,P l[m])↔ ∃x∈l,P x:=by
 constructor
 ·rintro⟨m,-,h,hp⟩;exact⟨_,k8 h,hp⟩
 ·rintro⟨x,hx,hp⟩;obtain⟨m,hm,rfl⟩:=Bg hx;exact⟨m,by omega,hm,hp⟩
theorem Ws (sp tb np:Nat)(p:Px)(vs vp vc vi vf lv cv:Value)(ms ws:List Nat)(i:Nat)(w0 w:World)(hp:j8 p)(R6:wY p)(hw:G5 p ms)(hi:i<p.D.length)(hws:Wf ws)(t0:z6 [] w0 w)(hT:Tg w0 tb p vs vp vc vi vf)(Ho:Y1 w0)(hnp:w0.heap.size≤np)(hN:j4 w np 69 ((ws.map y6).toArray))(hS:j4 w sp 305 #[.pointer (some ⟨tb,0,none⟩),lv,cv])(Vq:sp≠np)(hL:LB w lv ms)(hlv:np∉m5 lv):Calls Tryz.prog 243 #[.pointer (some ⟨sp,0,none⟩),.int .i64 i,.pointer (some ⟨np,0,none⟩)] w fun r w'=>r= .returned (.tuple #[])∧(∃qT,Wf qT∧j4 w' np 69 ((qT.map y6).toArray)∧ ∀j,Z1 qT j=true↔Z1 ws j=true∨XF p ms i j)∧z6 [np] w w':=by
 have HZ:=O (fun(W:World) (t:z6 [np] w W)=>t0.step t (fun m hm=> .inr (by rw[y7]at hm;omega)));have HS:=O (fun(W:World) (t:z6 [np] w W)=>hS.z7 t (by simpa using Vq));have HLV:=O (fun(W:World) (t:z6 [np] w W)=>hL.z7 t (fun b hb U3=>hlv (by rw[y7]at U3;rw[←U3];exact hb)));have St:=O (fun(W:World) (t:z6 [np] w W) (k:Nat) (hk:k<p.D.length)=>Om sp (.pointer (some ⟨tb,0,none⟩)) cv lv ms k W (HS.o W t) (HLV.o W t) (by rw[hw.len];exact hk) (hw.bits k) (Ho.q8 (HZ.o W t)));have qQ:Hid (w.heap.size≠np):=O (by have:=hN.lt;omega);have HNA:=O (fun(W:World) (gb:Nat) (vs1:List Nat) (a:Nat) (h1:Wf vs1) (h2:a<512) (h3:j4 W gb 335 #[.pointer (some ⟨np,0,none⟩)]) (h4:j4 W np 69 ((vs1.map y6).toArray)) (h5:gb≠np)=>LZ gb np vs1 h1 a h2 W h3 h4 h5);have Vu:=O (fun(W:World) (t:z6 [np] w W)=>hT.q8 (HZ.o W t));obtain⟨Ap,cp,rfl⟩:=hT.rp.form;obtain⟨Ai,ci,rfl⟩:=hT.ri.form;obtain⟨Af,cf,rfl⟩:=hT.rf.form;obtain⟨bp,op,up,rfl,hbp,ep,rp⟩:=hT.rp.at_ (k:=i) (by rw[M6];exact hi);obtain⟨bi,oi,ui,rfl,hbi,ei,ri⟩:=hT.ri.at_ (k:=i) (by rw[M6];exact hi);obtain⟨bf,of,uf,rfl,hbf,ef,rf⟩:=hT.rf.at_ (k:=i) (by rw[M6];exact hi);rw[Rz]at rp ri rf;obtain⟨Bp,kp,rfl⟩:=rp.form;obtain⟨Bi,ki,rfl⟩:=ri.form;obtain⟨Bf,kf,rfl⟩:=rf.form;simp only[M6]at Vu;have HC:=O (fun(W:World) (t:z6 [np] w W)=>show(W.cell? ⟨sp,0,none⟩=some (.pointer (some ⟨tb,0,none⟩))∧W.cell? ⟨tb,514,none⟩=some (.slice (some ⟨bp,op,none⟩) p.D.length cp)∧W.cell? ⟨tb,516,none⟩=some (.slice (some ⟨bi,oi,none⟩) p.D.length ci)∧W.cell? ⟨tb,517,none⟩=some (.slice (some ⟨bf,of,none⟩) p.D.length cf))∧W.cell? ⟨bp,op+i,none⟩=some (.slice Bp (y9 p i).length kp)∧W.cell? ⟨bi,oi+i,none⟩=some (.slice Bi (a_ p i).length ki)∧W.cell? ⟨bf,of+i,none⟩=some (.slice Bf (s6 p i).length kf)from⟨⟨((HS.o W t).cell 0).trans rfl,(Vu.o W t).cp,(Vu.o W t).ci,(Vu.o W t).cf⟩,((HZ.o W t).cell (p:=⟨bp,op+i,none⟩) hbp (by simp)).trans ep,((HZ.o W t).cell (p:=⟨bi,oi+i,none⟩) hbi (by simp)).trans ei,((HZ.o W t).cell (p:=⟨bf,of+i,none⟩) hbf (by simp)).trans ef⟩);have HRP:=O (fun(W:World) (t:z6 [np] w W)=>rp.q8 (HZ.o W t));have HRI:=O (fun(W:World) (t:z6 [np] w W)=>ri.q8 (HZ.o W t))
 have HRA:Hid (∀a,a<p.D.length→ ∃Aa ca,∀W,z6 [np] w W→W.cell? ⟨bi,oi+a,none⟩=some (.slice Aa (a_ p a).length ca)∧o5 W (.slice Aa (a_ p a).length ca) (a_ p a)):=O (fun a ha=>by
  obtain⟨b2,o2,u2,e,U3,e2,r2⟩:=hT.ri.at_ (k:=a) (by rw[M6];exact ha);rw[Rz]at r2;injection e with e;injection e with e3 e4;subst e3 e4;obtain⟨Aa,ca,rfl⟩:=r2.form
  exact⟨Aa,ca,fun W t=>⟨((HZ.o W t).cell (p:=⟨bi,oi+a,none⟩) U3 (by simp)).trans e2,r2.q8 (HZ.o W t)⟩⟩)
 have HRF:=O (fun(W:World) (t:z6 [np] w W)=>rf.q8 (HZ.o W t));have HWI:=O (fun(W:World) (t:z6 [np] w W)=>St.o W t i hi);have XL:=p7 (fun W t=>hN.z7 t (by simp));have TB:=(z8 [np] w).alloc (.cells #[.pointer (some ⟨np,0,none⟩)] 335);have TB0:=(z8 [] w).alloc (.cells #[.pointer (some ⟨np,0,none⟩)] 335);have BG:=j4.new w 335 #[.pointer (some ⟨np,0,none⟩)];have HNB:Hid (∀j,XF p ms i j↔n7 (wd ms i)≠0∧((∃x∈y9 p i,j=x.a+x.b - (i:Int))∨(∃x∈a_ p i,j=x.b)∨ ∃x∈s6 p i,j=x.a∨(n7 (wd ms x.a.toNat)≠0∧ ∃y∈a_ p x.a.toNat,j=y.b))):=O (fun j=>Iff.rfl);have Xt:(i:Int)< (p.D.length:Int):=by omega
 have CM:(0:Int)≤(i:Int):=by omega
 have HWS:=O hws;have hlp:=R6.XX i;have hli:=R6.EX i;have hlf:=R6.from_ i;clear hT hS hL hN rp ri rf ep ei ef hbp hbi hbf hws hw;generalize n7 (wd ms i)=c0 at*;by_cases h0:c0=0
 ·have hb:(c0==0)=true:=by simpa using h0
  go_enter Tryz.func243,Tryz.ntmps243;go_wp2_with fail;refine(HWI.o _ TB).mono ?_;rintro r w1 ⟨rfl,t1⟩;have T1:=TB0.Y t1;go_wp2_with fail;refine bodyPost_ret (results_none rfl _ _ _) rfl ?_;refine⟨rfl,⟨ws,HWS.o,XL.o _ T1,fun j=> ?_⟩,(z8 [np] w).Y T1⟩;rw[HNB.o];exact⟨fun h=> .inl h,fun h=>h.elim id (fun h=>absurd h0 h.1)⟩
 have hb:(c0==0)=false:=by simpa using h0
 go_enter Tryz.func243,Tryz.ntmps243;go_wp2_with fail;refine(HWI.o _ TB).mono ?_;rintro r w1 ⟨rfl,t1⟩;obtain⟨⟨c1,c2,c3,c4⟩,c5,c6,c7⟩:=HC.o w1 (TB.Y t1);have J6:=O (TB.Y t1);have qr0:=O (XL.o _ (TB0.Y t1));have XP:=O (fun(W:World) (t:z6 [np] w1 W)=>(BG.z7 t1 (by simp)).z7 t (by have:=qQ.o;simpa using this));go_wp2_with fail;have bL:Hid (w.heap.size≠np):=qQ;generalize w.heap.size=gb at*;clear TB TB0 BG t1 c1 c2 c3 c4 c5 c6 c7;go_loopw [31] (fun ti wr=>jt w1 np ws (fun m j=> ∃h:m< (y9 p i).length,j=(y9 p i)[m].a+(y9 p i)[m].b - (i:Int)) (y9 p i).length ti wr) (fun ti _=>(y9 p i).length - (intOf ti).toNat)
 case atStart=>exact⟨0,by omega,rfl,z8 _ _,ws,HWS.o,qr0.o,fun j=>by simp⟩
 case round=>
  obtain⟨k,hk,rfl,ht,PE,gN,Qj,CH⟩:=hrel;have TW:=O (J6.o.trans ht);by_cases Z:k< (y9 p i).length
  ·have j1:(k:Int)< ((y9 p i).length:Int):=by omega
   have Z8:=HRP.o wr TW.o;obtain⟨b,off,rfl,hb⟩:=Z8.addr Z;obtain⟨d0,d1,d2,d3,d4⟩:=o5.at_ Z8 Z;obtain⟨a1,a2,e1,e2,l1,l2,l3,l4,-⟩:=F1 hp (k8 Z);have hD:=R6.dn
   obtain⟨q,hq,Ba⟩: ∃q:Nat,(a1:Int)+(a2:Int) - (i:Int)=(q:Int)∧q<512:=by
    rcases l4 with h | h
    ·exact⟨a2,by omega,by omega⟩
    ·exact⟨a1,by omega,by omega⟩
   have HG:Hid (∀j:Int,(∃h:k< (y9 p i).length,j=(y9 p i)[k].a+(y9 p i)[k].b - (i:Int))↔j=(q:Int)):=O (fun j=>⟨fun⟨_,h⟩=>by rw[h,e1,e2,hq],fun h=>⟨Z,by rw[h,e1,e2,hq]⟩⟩);rw[e1]at d0;rw[e2]at d1;generalize (y9 p i)[k].c=x2 at*;generalize (y9 p i)[k].d=x3 at*;generalize (y9 p i)[k].e=x4 at*;have HK:=O hk;have HT:=O ht;have HM:=O CH;have Zx:=O gN;have Ag:=O (Qj.alloc (.cells #[.int .i64 a1,.int .i64 a2,.int .i64 x2,.int .i64 x3,.int .i64 x4] 79));have BX:=j4.new wr 79 #[.int .i64 a1,.int .i64 a2,.int .i64 x2,.int .i64 x3,.int .i64 x4];have V0:=O (ht.alloc (.cells #[.int .i64 a1,.int .i64 a2,.int .i64 x2,.int .i64 x3,.int .i64 x4] 79));have q0:=(BX.cell 0).trans rfl;have q1:=(BX.cell 1).trans rfl;have hA1:(a1:Int)≤512:=by omega
   have hA2:(a2:Int)≤512:=by omega
   have hI:(i:Int)≤512:=by omega
   clear Z8 e1 e2 l1 l2 l3 l4 ht CH gN Qj hk;go_wp2_with fail;refine(HNA.o _ gb PE q Zx.o Ba (XP.o _ V0.o) Ag.o bL.o).mono ?_;rintro r w2 ⟨rfl,U3,t2⟩;go_wp2_with fail;exact⟨⟨k+1,Z,by go_num,V0.o.trans t2,Dy PE q,Lp Zx.o Ba,U3,Kh HM.o (aT Zx.o Ba HG.o)⟩,by simp[intOf];omega⟩
  ·have j1: ¬(k:Int)< ((y9 p i).length:Int):=by omega
   obtain⟨⟨c1,c2,c3,c4⟩,c5,c6,c7⟩:=HC.o wr TW.o;have HM1:Hid (∀j,Z1 PE j=true↔Z1 ws j=true∨ ∃x∈y9 p i,j=x.a+x.b - (i:Int)):=O (fun j=>by rw[CH,Od (l:=y9 p i) (by omega) (P:=fun x=>j=x.a+x.b - (i:Int))]);have Zx:=O gN;have Ag:=O Qj;have HGA:=O (fun(W:World) (t:z6 [np] wr W)=>XP.o W (ht.trans t));clear CH gN Qj ht Z hk XP qr0;go_wp2_with fail;clear c1 c2 c3 c4 c5 c6 c7;generalize wr=wa at*;go_loopw [56] (fun ti wr=>jt wa np PE (fun m j=> ∃h:m< (a_ p i).length,j=(a_ p i)[m].b) (a_ p i).length ti wr) (fun ti _=>(a_ p i).length - (intOf ti).toNat)
   case atStart=>exact⟨0,by omega,rfl,z8 _ _,PE,Zx.o,Ag.o,fun j=>by simp⟩
   case round=>
    have TWA:=O TW.o;clear TW;obtain⟨k,hk,rfl,ht,Mn,aY,U3,Ja⟩:=hrel;have TW:=O (TWA.o.trans ht);by_cases Z:k< (a_ p i).length
    ·have j1:(k:Int)< ((a_ p i).length:Int):=by omega
     have Z8:=HRI.o wr TW.o;obtain⟨b,off,rfl,hb⟩:=Z8.addr Z;obtain⟨d0,d1,d2,d3,d4⟩:=o5.at_ Z8 Z;obtain⟨a2,e1,e2,l1,l2,-⟩:=Q2 hp (k8 Z);have hD:=R6.dn;have Ba:a2<512:=by omega
     have HG:Hid (∀j:Int,(∃h:k< (a_ p i).length,j=(a_ p i)[k].b)↔j=(a2:Int)):=O (fun j=>⟨fun⟨_,h⟩=>by rw[h,e2],fun h=>⟨Z,by rw[h,e2]⟩⟩);rw[e1]at d0;rw[e2]at d1;generalize (a_ p i)[k].c=x2 at*;generalize (a_ p i)[k].d=x3 at*;generalize (a_ p i)[k].e=x4 at*;have HM:=O Ja;have Vt:=O aY;have O5:=O (U3.alloc (.cells #[.int .i64 i,.int .i64 a2,.int .i64 x2,.int .i64 x3,.int .i64 x4] 81));have BX:=j4.new wr 81 #[.int .i64 i,.int .i64 a2,.int .i64 x2,.int .i64 x3,.int .i64 x4];have V0:=O (ht.alloc (.cells #[.int .i64 i,.int .i64 a2,.int .i64 x2,.int .i64 x3,.int .i64 x4] 81));have q1:=(BX.cell 1).trans rfl;clear Z8 e1 e2 l1 l2 ht Ja aY U3 hk;go_wp2_with fail;refine(HNA.o _ gb Mn a2 Vt.o Ba (HGA.o _ V0.o) O5.o bL.o).mono ?_;rintro r w2 ⟨rfl,U3,t2⟩;go_wp2_with fail;exact⟨⟨k+1,Z,by go_num,V0.o.trans t2,Dy Mn a2,Lp Vt.o Ba,U3,Kh HM.o (aT Vt.o Ba HG.o)⟩,by simp[intOf];omega⟩
    ·have j1: ¬(k:Int)< ((a_ p i).length:Int):=by omega
     obtain⟨⟨c1,c2,c3,c4⟩,c5,c6,c7⟩:=HC.o wr TW.o;have DB:Hid (∀j,Z1 Mn j=true↔Z1 PE j=true∨ ∃x∈a_ p i,j=x.b):=O (fun j=>by rw[Ja,Od (l:=a_ p i) (by omega) (P:=fun x=>j=x.b)]);have Vt:=O aY;have O5:=O U3;have HGB:=O (fun(W:World) (t:z6 [np] wr W)=>HGA.o W (ht.trans t));clear Ja aY U3 ht Z hk HGA TWA;go_wp2_with fail;clear c1 c2 c3 c4 c5 c6 c7;generalize wr=wb at*;go_loopw [76] (fun ti wr=>jt wb np Mn (fun m j=> ∃h:m< (s6 p i).length,j=(s6 p i)[m].a∨(n7 (wd ms (s6 p i)[m].a.toNat)≠0∧ ∃y∈a_ p (s6 p i)[m].a.toNat,j=y.b)) (s6 p i).length ti wr) (fun ti _=>(s6 p i).length - (intOf ti).toNat)
     case atStart=>exact⟨0,by omega,rfl,z8 _ _,Mn,Vt.o,O5.o,fun j=>by simp⟩
     case round=>
      have TWB:=O TW.o;clear TW;obtain⟨k,hk,rfl,ht,ws3,hw3,WU,k_⟩:=hrel;have TW:=O (TWB.o.trans ht);by_cases Z:k< (s6 p i).length
      ·have j1:(k:Int)< ((s6 p i).length:Int):=by omega
       have Z8:=HRF.o wr TW.o;obtain⟨b,off,rfl,hb⟩:=Z8.addr Z;obtain⟨d0,d1,d2,d3,d4⟩:=o5.at_ Z8 Z;obtain⟨a1,e1,e2,l1,l2,-⟩:=E3 hp (k8 Z);have hD:=R6.dn;have Ba:a1<512:=by omega
       have HG:Hid (∀j:Int,(∃h:k< (s6 p i).length,j=(s6 p i)[k].a∨(n7 (wd ms (s6 p i)[k].a.toNat)≠0∧ ∃y∈a_ p (s6 p i)[k].a.toNat,j=y.b))↔j=(a1:Int)∨(n7 (wd ms a1)≠0∧ ∃y∈a_ p a1,j=y.b)):=O (fun j=>⟨fun⟨_,h⟩=>(by rw[e2,X4]at h;exact h),fun h=>⟨Z,by rw[e2,X4];exact h⟩⟩);rw[e2]at d0;rw[e1]at d1;generalize (s6 p i)[k].c=x2 at*;generalize (s6 p i)[k].d=x3 at*;generalize (s6 p i)[k].e=x4 at*;have HM:=O k_;have HW3:=O hw3;have uy:=O (WU.alloc (.cells #[.int .i64 a1,.int .i64 i,.int .i64 x2,.int .i64 x3,.int .i64 x4] 81));have BX:=j4.new wr 81 #[.int .i64 a1,.int .i64 i,.int .i64 x2,.int .i64 x3,.int .i64 x4];have V0:=O (ht.alloc (.cells #[.int .i64 a1,.int .i64 i,.int .i64 x2,.int .i64 x3,.int .i64 x4] 81));have QI:Hid (wr.heap.size≠np):=O (by have:=WU.lt;omega);have q0:=(BX.cell 0).trans rfl;have HRW:=O (HRA.o a1 l2);have HOA:=O (fun(W:World) (t:z6 [np] w W)=>St.o W t a1 l2);have HL1:=O l2;clear Z8 e1 e2 l1 l2 ht k_ hw3 WU hk;go_wp2_with fail;refine(HNA.o _ gb ws3 a1 HW3.o Ba (HGB.o _ V0.o) uy.o bL.o).mono ?_;rintro r w2 ⟨rfl,U3,t2⟩;generalize hwa:wr.alloc _=wc at*;have M5:=O (aT (G:=fun j=>j=(a1:Int)) HW3.o Ba (fun j=>Iff.rfl));have EG:=O (Lp HW3.o Ba);have mR:=BX.z7 t2 (by have:=QI.o;simpa using this);have q2:=(mR.cell 0).trans rfl;have HBA:=O U3;have B4:=O (V0.o.trans t2);generalize wr.heap.size=gx at*;generalize Dy ws3 a1=ws4 at*;clear BX q0 hwa uy t2 U3;go_wp2_with fail;refine(HOA.o _ (TWB.o.trans B4.o)).mono ?_;rintro r w3 ⟨rfl,t3⟩;generalize n7 (wd ms a1)=cA at*;have V3:=O (B4.o.Y t3);have TW3:=O (TWB.o.trans V3.o);have ug:=O (HBA.o.z7 t3 (by simp));have BX3:=mR.z7 t3 (by simp);clear t3 mR q2;by_cases PX:cA=0
       ·have hbA:(cA !=0)=false:=by simpa using PX
        go_wp2_with fail;exact⟨⟨k+1,Z,by go_num,V3.o,ws4,EG.o,ug.o,Kh HM.o (fun j=>by rw[M5.o,HG.o];exact⟨fun h=>h.imp id .inl,fun h=>h.imp id (fun h=>h.elim id (fun h=>absurd PX h.1))⟩)⟩,by simp[intOf];omega⟩
       ·have hbA:(cA !=0)=true:=by simpa using PX
        obtain⟨Aa,ca,HRa⟩:=HRW.o;have zh2:=O HRa;obtain⟨⟨c1,c2,c3,c4⟩,c5,c6,c7⟩:=HC.o w3 TW3.o;have c8:=(HRa w3 TW3.o).1;have q3:=(BX3.cell 0).trans rfl;have zk1:(a1:Int)< (p.D.length:Int):=by have:=HL1.o;omega
        have ze9:(0:Int)≤(a1:Int):=by omega
        have hla:=R6.EX a1;clear HRa;go_wp2_with fail;go_quiet (fail);go_wp2_with fail;have Il:=O (V3.o.drewN nq);have HB5:=O (ug.o.drewN nq);have TW4:=O (TWB.o.trans Il.o);have HGC:=O (fun(W:World) (t:z6 [np] (w3.drewN nq) W)=>HGB.o W (Il.o.trans t));clear c1 c2 c3 c4 c5 c6 c7 c8 q3 BX3 V3 ug TW3;generalize w3.drewN nq=w4 at*;generalize wr=wc2 at*;go_loopw [101] (fun ti wr=>jt w4 np ws4 (fun m j=> ∃h:m< (a_ p a1).length,j=(a_ p a1)[m].b) (a_ p a1).length ti wr) (fun ti _=>(a_ p a1).length - (intOf ti).toNat)
        case atStart=>exact⟨0,by omega,rfl,z8 _ _,ws4,EG.o,HB5.o,fun j=>by simp⟩
        case round=>
         obtain⟨k2,V9,rfl,ht,ws5,hw5,PU,hm5⟩:=hrel;by_cases Q7:k2< (a_ p a1).length
         ·have Jo:(k2:Int)< ((a_ p a1).length:Int):=by omega
          have Z8:=(zh2.o wr (TW4.o.trans ht)).2;obtain⟨b,off,rfl,hb⟩:=Z8.addr Q7;obtain⟨d0,d1,d2,d3,d4⟩:=o5.at_ Z8 Q7;obtain⟨a2,e1,e2,l1,l2,-⟩:=Q2 hp (k8 Q7);have qY:a2<512:=by omega
          have xT:Hid (∀j:Int,(∃h:k2< (a_ p a1).length,j=(a_ p a1)[k2].b)↔j=(a2:Int)):=O (fun j=>⟨fun⟨_,h⟩=>by rw[h,e2],fun h=>⟨Q7,by rw[h,e2]⟩⟩);rw[e1]at d0;rw[e2]at d1;generalize (a_ p a1)[k2].c=y2 at*;generalize (a_ p a1)[k2].d=y3 at*;generalize (a_ p a1)[k2].e=y4 at*;have HM5:=O hm5;have HW5:=O hw5;have Vo:=O (PU.alloc (.cells #[.int .i64 a1,.int .i64 a2,.int .i64 y2,.int .i64 y3,.int .i64 y4] 81));have BX:=j4.new wr 81 #[.int .i64 a1,.int .i64 a2,.int .i64 y2,.int .i64 y3,.int .i64 y4];have qq3:=O (ht.alloc (.cells #[.int .i64 a1,.int .i64 a2,.int .i64 y2,.int .i64 y3,.int .i64 y4] 81));have q1:=(BX.cell 1).trans rfl;clear Z8 e1 e2 l1 l2 ht hm5 hw5 PU V9;go_wp2_with fail;refine(HNA.o _ gb ws5 a2 HW5.o qY (HGC.o _ qq3.o) Vo.o bL.o).mono ?_;rintro r w5 ⟨rfl,U3,t2⟩;go_wp2_with fail;exact⟨⟨k2+1,Q7,by go_num,qq3.o.trans t2,Dy ws5 a2,Lp HW5.o qY,U3,Kh HM5.o (aT HW5.o qY xT.o)⟩,by simp[intOf];omega⟩
         ·have Jo: ¬(k2:Int)< ((a_ p a1).length:Int):=by omega
          have HM6:Hid (∀j,Z1 ws5 j=true↔Z1 ws4 j=true∨ ∃x∈a_ p a1,j=x.b):=O (fun j=>by rw[hm5,Od (l:=a_ p a1) (by omega) (P:=fun x=>j=x.b)]);have K8:=O (Il.o.trans ht);clear hm5 ht;go_wp2_with fail
          exact⟨⟨k+1,Z,by go_num,K8.o,ws5,hw5,PU,Kh HM.o (fun j=>by
           rw[HM6.o,M5.o,HG.o];constructor
           ·rintro((h | h) | h)
            ·exact .inl h
            ·exact .inr (.inl h)
            ·exact .inr (.inr ⟨PX,h⟩)
           ·rintro(h | h | ⟨-,h⟩)
            ·exact .inl (.inl h)
            ·exact .inl (.inr h)
            ·exact .inr h)⟩,by simp[intOf];omega⟩
      ·have j1: ¬(k:Int)< ((s6 p i).length:Int):=by omega
       have HM3:Hid (∀j,Z1 ws3 j=true↔Z1 Mn j=true∨ ∃x∈s6 p i,j=x.a∨(n7 (wd ms x.a.toNat)≠0∧ ∃y∈a_ p x.a.toNat,j=y.b)):=O (fun j=>by rw[k_,Od (l:=s6 p i) (by omega) (P:=fun x=>j=x.a∨(n7 (wd ms x.a.toNat)≠0∧ ∃y∈a_ p x.a.toNat,j=y.b))]);clear k_ ht;go_wp2_with fail;go_end0;refine⟨rfl,⟨ws3,hw3,WU,fun j=> ?_⟩,TW.o⟩;rw[HM3.o,DB.o,HM1.o,HNB.o];constructor
       ·rintro(((h | h) | h) | h)
        ·exact .inl h
        ·exact .inr ⟨h0,.inl h⟩
        ·exact .inr ⟨h0,.inr (.inl h)⟩
        ·exact .inr ⟨h0,.inr (.inr h)⟩
       ·rintro(h | ⟨-,h | h | h⟩)
        ·exact .inl (.inl (.inl h))
        ·exact .inl (.inl (.inr h))
        ·exact .inl (.inr h)
        ·exact .inr h
def Gl (f:α→Nat→Prop)(l:List α)(k g:Nat):Prop:= ∀j,g.testBit j=true↔ ∃m,m<k∧ ∃h:m<l.length,f l[m] j
theorem Ov (h:Gl f l k g)(hn: ∀j,¬ ∃h:k<l.length,f l[k] j):Gl f l (k+1) g:=fun j=>by
 rw[h j];constructor
 ·rintro⟨m,hm,h⟩;exact⟨m,by omega,h⟩
 ·rintro⟨m,hm,hx⟩;rcases Is.1 hm with h3 | h3
  ·exact⟨m,h3,hx⟩
  ·subst h3;exact absurd hx (hn j)
theorem vF {n:Nat}(h:Gl f l k g)(hn: ∀j,(∃h:k<l.length,f l[k] j)↔j=n):Gl f l (k+1) (g ||| 2^n):=fun j=>by
 rw[Og,S9,h j,Gu,G3];constructor
 ·rintro(⟨m,hm,h⟩ | h)
  ·exact⟨m,by omega,h⟩
  ·exact⟨k,by omega,(hn j).2 h.symm⟩
 ·rintro⟨m,hm,hx⟩;rcases Is.1 hm with h3 | h3
  ·exact .inl ⟨m,h3,hx⟩
  ·subst h3;exact .inr ((hn j).1 hx).symm
theorem Oe (h: ∀j,g.testBit j=true→j<64):g<18446744073709551616:=
 Nat.lt_pow_two_of_testBit (n:=64) g (fun i hi=>by
  cases e:g.testBit i with
  | false=>rfl
  | true=>have:=h i e;omega)
def qw2 (w:World)(p:Px)(ms:List Nat)(i:Nat)(tg ti:Value)(wr:World):Prop:= ∃k:Nat,k≤(y9 p i).length∧ti= .int .i64 k∧z6 [] w wr∧ ∃g:Nat,tg= .int .u64 g∧Gl (fun x j=>(Tb ms i x).testBit j=true) (y9 p i) k g
theorem vW (sp tb:Nat)(p:Px)(vs vp vc vi vf lv cv:Value)(ms:List Nat)(i:Nat)(w:World)(hp:j8 p)(R6:wY p)(hw:G5 p ms)(hi:i<p.D.length)(hT:Tg w tb p vs vp vc vi vf)(Ho:Y1 w)(hS:j4 w sp 305 #[.pointer (some ⟨tb,0,none⟩),lv,cv])(hL:LB w lv ms):Calls Tryz.prog 240 #[.pointer (some ⟨sp,0,none⟩),.int .i64 i] w fun r w'=> ∃g:Nat,r= .returned (.int .u64 g)∧(∀j,g.testBit j=true↔Pb p ms i j)∧z6 [] w w':=by
 have HS:=p7 (fun W t=>hS.z7 t (by simp));have St:=O (fun(W:World) (t:z6 [] w W) (k:Nat) (hk:k<p.D.length)=>Om sp (.pointer (some ⟨tb,0,none⟩)) cv lv ms k W (HS.o W t) (hL.q8 t) (by rw[hw.len];exact hk) (hw.bits k) (Ho.q8 t));have CY:=O (fun(k:Nat)=>Hf (hw.bits k))
 have Xv:Hid (∀(k g:Nat),Gl (fun x j=>(Tb ms i x).testBit j=true) (y9 p i) k g→g<18446744073709551616):=O (fun k g h=>Oe (fun j hj=>by
  obtain⟨m,-,hm,hb⟩:=(h j).1 hj;have:=Rb.two hp hw (⟨_,k8 hm,hb⟩:Pb p ms i j)
  omega))
 have GL:Hid (∀g,Gl (fun x j=>(Tb ms i x).testBit j=true) (y9 p i) (y9 p i).length g→ ∀j,g.testBit j=true↔Pb p ms i j):=O (fun g h j=>by
  rw[h j,Od (l:=y9 p i) (a9 _) (P:=fun x=>(Tb ms i x).testBit j=true)]
  exact Iff.rfl)
 obtain⟨Ap,cp,rfl⟩:=hT.rp.form;obtain⟨bp,op,up,rfl,hbp,ep,rp⟩:=hT.rp.at_ (k:=i) (by rw[M6];exact hi);rw[Rz]at rp;obtain⟨Bp,kp,rfl⟩:=rp.form;have c1:=(hS.cell 0).trans rfl;have c2:=hT.cp;simp only[M6]at c2;have hlp:=R6.XX i;have Xt:(i:Int)< (p.D.length:Int):=by omega
 have CM:(0:Int)≤(i:Int):=by omega
 have HRP:=p7 (fun W t=>rp.q8 t);clear hT hS hL rp hbp hw;go_enter Tryz.func240,Tryz.ntmps240;go_wp2_with fail;clear c1 c2 ep;go_loopw [5,21] (fun tg ti wr=>qw2 w p ms i tg ti wr) (fun _ ti _=>(y9 p i).length - (intOf ti).toNat)
 case atStart=>exact⟨0,by omega,rfl,z8 _ _,0,rfl,fun j=>by simp⟩
 case round=>
  obtain⟨k,hk,rfl,ht,g,rfl,Ep⟩:=hrel;by_cases Z:k< (y9 p i).length
  ·have j1:(k:Int)< ((y9 p i).length:Int):=by omega
   have Z8:=HRP.o wr ht;obtain⟨b,off,rfl,hb⟩:=Z8.addr Z;obtain⟨d0,d1,d2,d3,d4⟩:=o5.at_ Z8 Z;obtain⟨a1,a2,e1,e2,l1,l2,l3,l4,f1,f2,f3,f4⟩:=F1 hp (k8 Z);have hg:=Xv.o k g Ep
   have HG:Hid (∀j:Nat,(∃h:k< (y9 p i).length,(Tb ms i (y9 p i)[k]).testBit j=true)↔((a1=i∧(n7 (wd ms a2)≠0∧(y9 p i)[k].d≤n7 (wd ms a2) - (y9 p i)[k].c∧n7 (wd ms a2) - (y9 p i)[k].c≤(y9 p i)[k].e)∧(n7 (wd ms a2) - (y9 p i)[k].c).toNat=j)∨(a1≠i∧((y9 p i)[k].d≤n7 (wd ms a1)∧n7 (wd ms a1)≤(y9 p i)[k].e)∧(n7 (wd ms a1)+(y9 p i)[k].c).toNat=j))):=O (fun j=>by
    have e3:(y9 p i)[k].a.toNat=a1:=by rw[e1];rfl
    have e4:(y9 p i)[k].b.toNat=a2:=by rw[e2];rfl
    have e5:(y9 p i)[k].a=(i:Int)↔a1=i:=by rw[e1];omega
    have e6:=Ol (ms:=ms) (i:=i) (j:=j) (x:=(y9 p i)[k]);rw[e3,e4]at e6;simp only[ne_eq,e5]at e6⊢
    exact⟨fun⟨_,h⟩=>e6.1 h,fun h=>⟨Z,e6.2 h⟩⟩)
   rw[e1]at d0;rw[e2]at d1;generalize (y9 p i)[k].c=xc at*;generalize (y9 p i)[k].d=xd at*;generalize (y9 p i)[k].e=xe at*;have HB:=O Ep;have V0:=O (ht.alloc (.cells #[.int .i64 a1,.int .i64 a2,.int .i64 xc,.int .i64 xd,.int .i64 xe] 79));have BX:=j4.new wr 79 #[.int .i64 a1,.int .i64 a2,.int .i64 xc,.int .i64 xd,.int .i64 xe];have q0:=(BX.cell 0).trans rfl;have q1:=(BX.cell 1).trans rfl;have N6:=O (fun(W:World) (t:z6 [] (wr.alloc (.cells #[.int .i64 a1,.int .i64 a2,.int .i64 xc,.int .i64 xd,.int .i64 xe] 79)) W)=>show W.cell? ⟨wr.heap.size,2,none⟩=some (.int .i64 xc)∧W.cell? ⟨wr.heap.size,3,none⟩=some (.int .i64 xd)∧W.cell? ⟨wr.heap.size,4,none⟩=some (.int .i64 xe)from⟨((BX.z7 t (by simp)).cell 2).trans rfl,((BX.z7 t (by simp)).cell 3).trans rfl,((BX.z7 t (by simp)).cell 4).trans rfl⟩);clear Z8 e1 e2 ht Ep hk BX;by_cases hA:a1=i
   ·subst hA;have R2:=CY.o a2;have HC:=O (St.o _ V0.o a2 l2);generalize n7 (wd ms a2)=dd at*;generalize n7 (wd ms a1)=d9 at*;obtain⟨R3,R4⟩:=R2;go_wp2_with fail;refine HC.o.mono ?_;rintro r w2 ⟨rfl,t2⟩;obtain⟨q2,q3,q4⟩:=N6.o w2 t2;have D6:=O (V0.o.Y t2);clear q0 q1 t2 N6 V0 HC;by_cases hz:dd=0
    ·have z1:(dd !=0)=false:=by simpa using hz
     go_wp2_with fail;exact⟨⟨k+1,Z,by go_num,D6.o,g,rfl,Ov HB.o (fun j=>by rw[HG.o];omega)⟩,by simp[intOf];omega⟩
    have z1:(dd !=0)=true:=by simpa using hz
    by_cases h2:xd≤dd - xc;rotate_left
    ·go_wp2_with fail;exact⟨⟨k+1,Z,by go_num,D6.o,g,rfl,Ov HB.o (fun j=>by rw[HG.o];omega)⟩,by simp[intOf];omega⟩
    by_cases h3:dd - xc≤xe;rotate_left
    ·go_wp2_with fail;exact⟨⟨k+1,Z,by go_num,D6.o,g,rfl,Ov HB.o (fun j=>by rw[HG.o];omega)⟩,by simp[intOf];omega⟩
    obtain⟨n,hn⟩:=K5 (show 0≤dd - xc by omega);have FC:n<64:=by omega
    have u1:=O8 n FC;have u2:=Nx g n hg FC;have vw: ¬(n:Int)<0:=by omega
    rw[hn]at h2 h3;go_wp2_with (first | rw[hn] | rw[u1] | rw[u2]);exact⟨⟨k+1,Z,by go_num,D6.o,g ||| 2^n,rfl,vF HB.o (fun j=>by rw[HG.o];exact⟨fun h=>by omega,fun h=> .inl ⟨trivial,⟨hz,by omega,by omega⟩,by omega⟩⟩)⟩,by simp[intOf];omega⟩
   ·have R2:=CY.o a1;have HC:=O (St.o _ V0.o a1 l1);have hA':((a1:Int)==(i:Int))=false:=by simp;omega
    generalize n7 (wd ms a1)=dd at*;generalize n7 (wd ms a2)=d9 at*;obtain⟨R3,R4⟩:=R2;go_wp2_with fail;refine HC.o.mono ?_;rintro r w2 ⟨rfl,t2⟩;obtain⟨q2,q3,q4⟩:=N6.o w2 t2;have D6:=O (V0.o.Y t2);clear q0 q1 t2 N6 V0 HC;by_cases h2:xd≤dd;rotate_left
    ·go_wp2_with fail;exact⟨⟨k+1,Z,by go_num,D6.o,g,rfl,Ov HB.o (fun j=>by rw[HG.o];omega)⟩,by simp[intOf];omega⟩
    by_cases h3:dd≤xe;rotate_left
    ·go_wp2_with fail;exact⟨⟨k+1,Z,by go_num,D6.o,g,rfl,Ov HB.o (fun j=>by rw[HG.o];omega)⟩,by simp[intOf];omega⟩
    obtain⟨n,hn⟩:=K5 (show 0≤dd+xc by omega);have FC:n<64:=by omega
    have u1:=O8 n FC;have u2:=Nx g n hg FC;have vw: ¬(n:Int)<0:=by omega
    go_wp2_with (first | rw[hn] | rw[u1] | rw[u2]);exact⟨⟨k+1,Z,by go_num,D6.o,g ||| 2^n,rfl,vF HB.o (fun j=>by rw[HG.o];exact⟨fun h=>by omega,fun h=> .inr ⟨hA,⟨h2,h3⟩,by omega⟩⟩)⟩,by simp[intOf];omega⟩
  ·have j1: ¬(k:Int)< ((y9 p i).length:Int):=by omega
   obtain rfl:k=(y9 p i).length:=by omega
   have HE:=O (GL.o g Ep);clear Ep;go_wp2_with fail;go_ret;exact⟨g,rfl,HE.o,ht⟩
end Go.Proofs.YtlhlmcohdkkjpaaGreatDoor
