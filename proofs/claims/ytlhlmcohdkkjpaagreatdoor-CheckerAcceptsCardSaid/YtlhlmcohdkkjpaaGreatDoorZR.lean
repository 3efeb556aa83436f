/- Package propagate: cut: channels are removed from a domain, and all that follows. -/
import Derived.Test.YtlhlmcohdkkjpaaGreatDoorCc13
set_option linter.all false
set_option maxHeartbeats 16000000
set_option maxRecDepth 100000
namespace Go.Proofs.YtlhlmcohdkkjpaaGreatDoor
open Go.RowKit
variable{cf:Bool}{gs:List (List Cx)}{ms:List Nat}{g m sp tb c k:Nat}{p:Px}{vs vp vc vi vf v:Value}{w0 w w' w1:World}
theorem BQ (h:m&&&g=0):J7 m g=m:=by
 unfold J7;rw[h];exact Nat.xor_zero m
theorem yp (sp tb g cap:Nat)(p:Px)(vs vp vc vi vf:Value)(gs:List (List Cx))(M0:Left)(ms:List Nat)(i gone:Nat)(w0 w:World)(hp:j8 p)(R6:wY p)(t0:z6 [] w0 w)(hT:Tg w0 tb p vs vp vc vi vf)(Ho:Y1 w0)(Vq:w0.heap.size≤sp)(hg:w0.heap.size≤g)(X3:sp≠g)(Bo:g<w.heap.size)
  (hS:j4 w sp 305 #[.pointer (some ⟨tb,0,none⟩),.slice (some ⟨g,0,none⟩) ms.length cap,.bool false]) (hL:LB w (.slice (some ⟨g,0,none⟩) ms.length cap) ms) (hw:G5 p ms) (hr:Rest p ms) (hi:i<p.D.length) (mw:gone<18446744073709551616) (Qn:K9 p gs M0 (ms.set i (J7 (wd ms i) gone))):
  Calls Tryz.prog 246 #[.pointer (some ⟨sp,0,none⟩),.int .i64 i,.int .u64 gone] w fun r w'=>r= .returned (.tuple #[])∧Gv sp tb g cap p gs M0 w w':=by
 have vj:i<ms.length:=by rw[hw.len];exact hi
 have c1:=(hS.cell 1).trans rfl;have c3:=hL.at_ vj;rw[←Tl vj]at c3;have hm:=(hw.bits i).lt;have e1:=u64_and_nat (wd ms i) gone hm mw;have e2:=Uz hm mw;have mz:(i:Int)< (ms.length:Int):=by omega
 have CM:(0:Int)≤(i:Int):=by omega
 have hgz:g<w.heap.size:=Bo;have hfz:=Own.aN hL i;by_cases hz:wd ms i&&&gone=0
 ·rw[hz]at e1;have HN:Hid (Gv sp tb g cap p gs M0 w w):=O ⟨ms,false,hS,hL,by rw[BQ hz,Po vj]at Qn;exact Qn,hr,z8 _ _⟩;clear hS hL Qn hr e2;go_enter Tryz.func246,Tryz.ntmps246;go_wp2_with (first | rw[e1]);refine bodyPost_ret (results_none rfl _ _ _) rfl ⟨rfl,HN.o⟩
 have hzb:(((wd ms i&&&gone:Nat):Int)==0)=false:=by simpa using hz
 obtain⟨P1,T1⟩:=hL.put i (J7 (wd ms i) gone);have HP1:=O P1;have J6:=O T1;have S1:=hS.z7 T1 (by simpa using X3);rw[Dr ms i (J7 (wd ms i) gone)]at S1;have Nd:=O S1;have HR:=O hr;have HW:=O hw;have Zd:=O vj;have XL:=O Qn;have OV:=O hS.lt;have hzr:=jV;clear hS hL Qn hr P1 T1 S1 hz vj;go_enter Tryz.func246,Tryz.ntmps246;go_wp2_with (first | rw[e1] | rw[e2]);have B4:=O (J6.o.alloc (.cells ((l8.map y6).toArray) 69));have Hw:=O (Nd.o.alloc (.cells ((l8.map y6).toArray) 69));have HL2:=O (HP1.o.q8 ((z8 [] _).alloc (.cells ((l8.map y6).toArray) 69)));have Sz:=O (j4.new (w.setCell ⟨g,i,none⟩ (.int .u64 (J7 (wd ms i) gone:Nat))) 69 ((l8.map y6).toArray));rw[show(w.setCell ⟨g,i,none⟩ (.int .u64 (J7 (wd ms i) gone:Nat))).heap.size=w.heap.size by simp[World.setCell]]at Sz;have Zn:Hid (∀j,(J7 (wd ms i) gone).testBit j=true→(wd ms i).testBit j=true):=O (fun j hj=>by rw[F8,p9]at hj;exact hj.1);clear c1 c3 e1 e2 hzb hfz;generalize J7 (wd ms i) gone=m' at*;generalize (w.setCell _ _).alloc _=w2 at*;obtain⟨gx,Mi⟩: ∃gx,gx=w.heap.size:=⟨_,rfl⟩;rw[←Mi]at Sz⊢;have Vv:=O Mi;clear Mi;have qq5:=O (t0.step B4.o (fun m hm=> .inr (by rw[y7]at hm;omega)));have QI:Hid (sp≠gx∧g≠gx∧w0.heap.size≤gx):=O (by have:=Vv.o;have:=OV.o;have:=t0.size;omega);refine(Ws sp tb gx p vs vp vc vi vf _ _ (ms.set i m') l8 i w0 w2 hp R6 XL.o.Fv hi L5 qq5.o hT Ho QI.o.2.2 Sz.o Hw.o QI.o.1 HL2.o (by have:=QI.o.2.1;simp[m5];omega)).mono ?_;rintro r w3 ⟨rfl,⟨Mn,aY,U3,Ja⟩,t3⟩;have bJ:=O (Hw.o.z7 t3 (by have:=QI.o.1;simpa using this));have HL3:=O (HL2.o.z7 t3 (fun b hb=>by have:=QI.o.2.1;simp only[m5,m6,V6,Q1]at hb⊢;omega));have qq4:=O (qq5.o.step t3 (fun m hm=> .inr (by rw[y7]at hm;have:=QI.o.2.2;omega)));have qq2:Hid (z6 [sp,g] w w3):=O ((B4.o.mono (by simp)).step t3 (fun m hm=> .inr (by rw[y7]at hm;have:=Vv.o;omega)));have wZ:Hid (g<w3.heap.size):=O (W6 (W6 Bo B4.o.size) t3.size);have uy:=O U3
 have DC:Hid (∀k∈J2 Mn 0,k<p.D.length):=O (fun k hk=>by
  rcases(Ja k).1 (Ur hk).2.2 with h1 | h1
  ·rw[De]at h1;cases h1
  ·obtain⟨k',e,Qi⟩:=h1.lt hp
   omega)
 have DB:=O Ja;have c1:=(bJ.o.cell 1).trans rfl;rw[←Dr ms i m']at c1
 have c3:w3.cell? ⟨g,i,none⟩=some (.int .u64 (m':Nat)):=by
  have h:=HL3.o.at_ (by rw[Nt];exact Zd.o);rw[←Tl (by rw[Nt];exact Zd.o),Z2 Zd.o]at h;exact h
 have s2:=bJ.o.cell 2;have s4:=bJ.o.lt;have s5:=bJ.o.frozen 2;clear U3 Ja t3;by_cases Fe:m'=0
 ·subst Fe;have ts:z6 [sp] w3 (w3.setCell ⟨sp,2,none⟩ (.bool true)):=(z8 [sp] w3).setCell (.inl (by simp)) _;have HS4:Hid (j4 (w3.setCell ⟨sp,2,none⟩ (.bool true)) sp 305 #[.pointer (some ⟨tb,0,none⟩),.slice (some ⟨g,0,none⟩) (ms.set i 0).length cap,.bool true]):=O (bJ.o.V8 2 (.bool true));have W_:=O (HL3.o.z7 ts (fun b hb=>by simp only[m5,m6,V6,Q1]at hb⊢;omega));have ug:=O (uy.o.z7 ts (by have:=QI.o.1;simp;omega));have GB:=O (qq4.o.step ts (fun m hm=> .inr (by rw[y7]at hm;omega)));have qe1:=O (qq2.o.step ts (fun m hm=> .inl (by simp only[m6,V6,Q1]at hm⊢;exact .inl hm)));have ma:Hid (g< (w3.setCell ⟨sp,2,none⟩ (.bool true)).heap.size):=O (W6 wZ.o ts.size);go_upto_region 6 with fail
  clear c1 c3 s2 s4 s5 ts;generalize w3.setCell ⟨sp,2,none⟩ (.bool true)=w4 at*;have Rm:=O (Ww Mn aY w4 (Ho.q8 GB.o));unfold T5 at Rm;have hs:=m8 aY;have b4:=ug.o;generalize Ba:J2 Mn 0=q2 at*;have HQ2:=O Ba;clear Ba;go_wp2_with (refine U5 b4 hs ?_);refine Rm.o.mono ?_;rintro r w5 ⟨gl,cl,rfl,k1,k2,k3,ho,t5⟩;have HO:=O ho;have HK:=O k1;have K8:=O t5;clear ho t5 k1 k2 k3 b4;go_wp2_with fail
  refine(Sf sp tb g cap p vs vp vc vi vf _ gs M0 (ms.set i 0) q2 true w0 w5 hp R6 (GB.o.Y K8.o) hT Ho Vq hg X3 (W6 ma.o K8.o.size) (HS4.o.z7 K8.o (by simp)) (W_.o.q8 K8.o) XL.o (Own.reads HO.o) (fun b hb U3=>by
   have h4:=Gp _ b hb;have h5:=HS4.o.lt;have h6:=ma.o;have h7:=HK.o;simp only[m5,m6,V6,Q1]at h4 U3
   omega) DC.o (fun e=>by cases e) (fun _=>⟨i,hi,Z2 Zd.o⟩)).mono ?_
  rintro r w6 ⟨rfl,Fj,jP,q1,ZQ,q3,q4,t6⟩;go_wp2_with fail;go_end0;exact⟨rfl,Fj,jP,q1,ZQ,q3,q4,(qe1.o.Y K8.o).trans t6⟩
 have hmz:((m':Int)==0)=false:=by simpa using Fe
 have HS4:=bJ;have W_:=HL3;have ug:=uy;have GB:=qq4;have qe1:=qq2;have ma:=wZ;have Rm:=O (Ww Mn aY w3 (Ho.q8 GB.o));unfold T5 at Rm;have hs:=m8 aY;have b4:=ug.o;generalize Ba:J2 Mn 0=q2 at*;have HQ2:=O Ba;clear Ba;go_wp2_with (refine U5 b4 hs ?_);refine Rm.o.mono ?_;rintro r w5 ⟨gl,cl,rfl,k1,k2,k3,ho,t5⟩;have HO:=O ho;have HK:=O k1;have K8:=O t5;clear ho t5 k1 k2 k3 b4;go_wp2_with fail
 refine(Sf sp tb g cap p vs vp vc vi vf _ gs M0 (ms.set i m') q2 false w0 w5 hp R6 (GB.o.Y K8.o) hT Ho Vq hg X3 (W6 ma.o K8.o.size) (HS4.o.z7 K8.o (by simp)) (W_.o.q8 K8.o) XL.o (Own.reads HO.o) (fun b hb U3=>by
  have h4:=Gp _ b hb;have h5:=HS4.o.lt;have h6:=ma.o;have h7:=HK.o;simp only[m5,m6,V6,Q1]at h4 U3
  omega) DC.o (fun _=>⟨fun k hk hkq _=>Ru.cut hp HW.o hi Zn.o Fe HR.o.2 (nx:=Z1 Mn) (fun j hj=>(DB.o j).2 (.inr hj)) k hk (by
    cases e:Z1 Mn (k:Int)with
    | false=>rfl
    | true=>have:=Xc e;rw[HQ2.o]at this;exact absurd this hkq),fun k hk e=>by
    by_cases hki:i=k
    ·subst hki;rw[Z2 Zd.o]at e;exact absurd e Fe
    ·rw[Y5 Zd.o hki]at e
     exact absurd e (HR.o.1 k hk)⟩) (fun e=>by cases e)).mono ?_
 rintro r w6 ⟨rfl,Fj,jP,q1,ZQ,q3,q4,t6⟩;go_wp2_with fail;go_end0;exact⟨rfl,Fj,jP,q1,ZQ,q3,q4,(qe1.o.Y K8.o).trans t6⟩
theorem fq (tb:Nat)(p:Px)(vs vp vc vi vf:Value)(s:Int)(w:World)(hp:j8 p)(hl:p.D.length≤512)(hT:Tg w tb p vs vp vc vi vf):Calls Tryz.prog 264 #[.pointer (some ⟨tb,0,none⟩),.int .i64 s] w fun r w'=>r= .returned (.tuple #[.int .i64 (if y8 p s then(G8 p s:Int)else 0),.bool (y8 p s)])∧w=w':=by
 by_cases h1:s<0
 ·have h2:y8 p s=false:=by
   cases e:y8 p s with
   | false=>rfl
   | true=>
    obtain⟨g1,g2⟩:=X0 e;have:=hp.sr _ g1;omega
  rw[h2];clear hT;go_enter Tryz.func264,Tryz.ntmps264;go_wp2_with fail;go_ret2;exact⟨rfl,rfl⟩
 by_cases h3:512≤s
 ·have h2:y8 p s=false:=by
   cases e:y8 p s with
   | false=>rfl
   | true=>
    obtain⟨g1,g2⟩:=X0 e;have:=hp.sr _ g1;omega
  rw[h2];clear hT;go_enter Tryz.func264,Tryz.ntmps264;go_wp2_with fail;go_ret2;exact⟨rfl,rfl⟩
 obtain⟨n,rfl⟩:=K5 (show 0≤s by omega);have c1:=hT.ix n (by omega);have Z:=hT.lt;have h0:(0:Int)≤(n:Int):=by omega
 have h5:(n:Int)<512:=by omega
 unfold CA at c1
 cases e:y8 p (n:Int)with
 | false=>
  rw[e]at c1;simp only[Uc,if_false]at c1⊢;clear hT;go_enter Tryz.func264,Tryz.ntmps264;go_wp2_with fail;go_ret2;exact⟨rfl,rfl⟩
 | true=>
  rw[e]at c1;obtain⟨g1,-⟩:=X0 e;simp only[if_true]at c1⊢;generalize G8 p (n:Int)=q at*;have hq: ¬((q:Int)+1=0):=by omega
  clear hT;go_enter Tryz.func264,Tryz.ntmps264;go_wp2_with fail;go_ret2;exact⟨by go_num,rfl⟩
structure xL (w0:World)(tb:Nat)(p:Px)(vs vp vc vi vf:Value):Prop where
 hp:j8 p
 we:wY p
 at_:Tg w0 tb p vs vp vc vi vf
 t64:Y1 w0
structure Vk (w0 w:World)(sp tb g cap:Nat)(p:Px)(ms:List Nat)(cf:Bool):Prop where
 t0:z6 [] w0 w
 Vq:w0.heap.size≤sp
 hg:w0.heap.size≤g
 X3:sp≠g
 Bo:g<w.heap.size
 len:ms.length=p.D.length
 st:j4 w sp 305 #[.pointer (some ⟨tb,0,none⟩),.slice (some ⟨g,0,none⟩) ms.length cap,.bool cf]
 lb:LB w (.slice (some ⟨g,0,none⟩) ms.length cap) ms
theorem Vk.q8 {cap:Nat}(h:Vk w0 w sp tb g cap p ms cf)(t:z6 [] w w'):Vk w0 w' sp tb g cap p ms cf:=
 ⟨h.t0.Y t,h.Vq,h.hg,h.X3,W6 h.Bo t.size,h.len,h.st.z7 t (by simp),h.lb.q8 t⟩
def ptr (b:Nat):Value:= .pointer (some ⟨b,0,none⟩)
theorem Ei {cap:Nat}(h:Vk w0 w sp tb g cap p ms cf):Calls Tryz.prog 244 #[.pointer (some ⟨sp,0,none⟩)] w fun r w'=>r= .returned (.bool false)∧w=w':=by
 have c0:=(h.st.cell 0).trans rfl;clear h;go_enter Tryz.func244,Tryz.ntmps244;go_wp2_with fail;go_ret;exact⟨rfl,rfl⟩
theorem Mf {cap:Nat}(h:Vk w0 w sp tb g cap p ms cf):Calls Tryz.prog 216 #[.pointer (some ⟨sp,0,none⟩)] w fun r w'=>r= .returned (.bool cf)∧w=w':=by
 have c2:=(h.st.cell 2).trans rfl;have HM:=O (Ei h);clear h;go_enter Tryz.func216,Tryz.ntmps216;go_wp2_with fail;refine HM.o.mono ?_;rintro r w1 ⟨rfl,rfl⟩;go_wp2_with fail;go_ret;exact⟨rfl,rfl⟩
theorem fA {cap:Nat}(hu:xL w0 tb p vs vp vc vi vf)(h:Vk w0 w sp tb g cap p ms false)(s c:Int)(hs:y8 p s=true)(Ad:2≤c)(Cs:c≤51):Calls Tryz.prog 245 #[.pointer (some ⟨sp,0,none⟩),.agg #[.int .i64 s,.int .i64 c]] w fun r w'=>r= .returned (.tuple #[.int .i64 (G8 p s),.int .i64 0])∧z6 [] w w':=by
 have TA:=(z8 [] w).alloc (.cells #[.int .i64 s,.int .i64 c] 53);have BX:=j4.new w 53 #[.int .i64 s,.int .i64 c];have hA:=h.q8 TA;have HM:=O (Ei hA);have XT:=p7 (fun W t=>fq tb p vs vp vc vi vf s W hu.hp hu.we.dn (hu.at_.q8 (h.t0.Y t)));have q0:=(BX.cell 0).trans rfl;have q1:=(BX.cell 1).trans rfl;have c0:=(hA.st.cell 0).trans rfl;have c2:=(hA.st.cell 2).trans rfl;obtain⟨h1,h2⟩:=X0 hs;have hr:=hu.hp.sr _ h1;rw[h2]at hr;have V0:=O TA;rw[hs]at XT;simp only[if_true]at XT;have hr1: ¬s<0:=by omega
 have hr2: ¬512≤s:=by omega
 have hr3: ¬c<2:=by omega
 have hr4: ¬51<c:=by omega
 clear TA BX hA h hu h1 h2 hr hs Ad Cs;go_enter Tryz.func245,Tryz.ntmps245;go_wp2_with fail;refine HM.o.mono ?_;rintro r w1 ⟨rfl,rfl⟩;go_wp2_with fail;go_quiet ((first | (go_at_call 264;exact x8 (XT.o _ (V0.o.drewN _)))));go_wp2_with fail;go_ret2;exact⟨rfl,V0.o.drewN _⟩
theorem Gv.st {cap:Nat}{M0:Left}(h:Vk w0 w sp tb g cap p ms cf)(q:Gv sp tb g cap p gs M0 w w'): ∃Fj jP,Vk w0 w' sp tb g cap p Fj jP∧K9 p gs M0 Fj∧OT p Fj jP∧z6 [sp,g] w w':=by
 obtain⟨Fj,jP,q1,q2,q3,q4,t⟩:=q
 exact⟨Fj,jP,⟨h.t0.step t (fun m hm=> .inr (by
  simp only[m6,V6,Q1]at hm;rcases hm with rfl | rfl
  ·exact h.Vq
  ·exact h.hg)),h.Vq,h.hg,h.X3,W6 h.Bo t.size,q3.Fv.len,q1,q2⟩,q3,q4,t⟩
def JY (w0:World)(sp tb g cap:Nat)(p:Px)(gs:List (List Cx))(M0:Left)(w w':World):Prop:= ∃Fj jP,Vk w0 w' sp tb g cap p Fj jP∧K9 p gs M0 Fj∧OT p Fj jP∧z6 [sp,g] w w'
theorem dQ (h:c<64):2^c<18446744073709551616:=dL (m:=c) (n:=64) (by omega) h
theorem RW (h:c<64):bits .xor .u64 IntKind.u64.max ((2^c:Nat):Int)=((18446744073709551615 - 2^c:Nat):Int):=by
 have h2:=dQ h;have e0:IntKind.u64.max=((18446744073709551615:Nat):Int):=by rfl
 rw[e0,u64_xor_nat 18446744073709551615 (2^c) (by omega) h2]
 congr 1
 refine sX (fun j=> ?_);have e:18446744073709551615 - 2^c=2^64 - (2^c+1):=by omega
 have e3:(18446744073709551615:Nat)=2^64 - 1:=by decide
 rw[e,Nat.testBit_xor,dK (show 2^c<2^64 from h2),e3,Nat.testBit_two_pow_sub_one];by_cases hj:j<64
 ·rw[b_ hj];cases(2^c).testBit j<;>rfl
 ·rw[v8 hj,Gu,v8 (by omega)];rfl
theorem NU (hm:m<18446744073709551616)(hc:c<64):J7 m (18446744073709551615 - 2^c)=m&&&2^c:=by
 have h2:=dQ hc;refine sX (fun j=> ?_);have e:18446744073709551615 - 2^c=2^64 - (2^c+1):=by omega
 rw[F8,Le,e,dK (show 2^c<2^64 from h2)];by_cases hj:j<64
 ·rw[b_ hj,Z4,Bool.not_not]
 ·have:m.testBit j=false:=Nat.testBit_lt_two_pow (W6 (show m<2^64 from hm) (Nat.pow_le_pow_right (by omega) (by omega)));rw[this,B6,B6]
theorem wj {cap:Nat}{d:List Dx}(hu:xL w0 tb p vs vp vc vi vf)(h:Vk w0 w sp tb g cap p ms false)(M8:K9 p gs (J1 d) ms)(hr:Rest p ms)(s:Int)(c:Nat)(hs:y8 p s=true)(Ad:2≤c)(Cs:c≤51):Calls Tryz.prog 217 #[.pointer (some ⟨sp,0,none⟩),.agg #[.int .i64 s,.int .i64 c]] w fun r w'=>r= .returned (.int .i64 0)∧JY w0 sp tb g cap p gs (J1 (S8 s c d)) w w':=by
 have TA:=(z8 [] w).alloc (.cells #[.int .i64 s,.int .i64 c] 53);have BX:=j4.new w 53 #[.int .i64 s,.int .i64 c];have hA:=h.q8 TA;have HCK:=O (fA hu hA s c hs (by omega) (by omega));obtain⟨h1,h2⟩:=X0 hs;have HCU:=O (fun(W:World) (t:z6 [] (w.alloc (.cells #[.int .i64 s,.int .i64 c] 53)) W)=>yp sp tb g cap p vs vp vc vi vf gs (J1 (S8 s c d)) ms (G8 p s) (18446744073709551615 - 2^c) w0 W hu.hp hu.we (hA.q8 t).t0 hu.at_ hu.t64 h.Vq h.hg h.X3 (hA.q8 t).Bo (hA.q8 t).st (hA.q8 t).lb M8.Fv hr h1 (Wo (Nat.sub_le _ _) (by decide)) (by rw[NU (M8.Fv.bits _).lt (by omega)];have:=M8.xZ hu.hp h1 (c:=c);rwa [h2]at this));have q0:=(BX.cell 0).trans rfl;have q1:=(BX.cell 1).trans rfl;have Q9:=O (fun(W W':World) (t:z6 [] w W) (q:Gv sp tb g cap p gs (J1 (S8 s c d)) W W')=>Gv.st (h.q8 t) q);have V0:=O TA;have N6:=O BX;have qc6:c<64:=by omega
 have U1:=O (O8 c (by omega));have vw: ¬(c:Int)<0:=by omega
 generalize G8 p s=ix at*;clear TA BX hA h hu M8 hr h1 h2 hs Ad Cs;go_enter Tryz.func217,Tryz.ntmps217;go_wp2_with fail;refine HCK.o.mono ?_;rintro r w1 ⟨rfl,t1⟩;have VO:=((N6.o.z7 t1 (by simp)).cell 1).trans rfl;have J6:=O t1;clear q0 q1 t1 N6;go_upto_region 3 with fail
 go_wp2_with fail;rw[U1.o,RW qc6];refine(HCU.o _ J6.o).mono ?_;rintro r w2 ⟨rfl,xG⟩;obtain⟨Fj,jP,g1,g2,g3,g4⟩:=Q9.o _ _ (V0.o.Y J6.o) xG;go_wp2_with fail;go_ret;exact⟨rfl,Fj,jP,g1,g2,g3,((z8 [sp,g] w).Y (V0.o.Y J6.o)).trans g4⟩
theorem uU:Gf Tryz.prog 230 66 1 8:=Gf.mk Tryz.underlying230 (z:= .int .u64 0) (by kernel_rfl) rfl (by decide)
theorem TR {cap:Nat}(hu:xL w0 tb p vs vp vc vi vf)(h:Vk w0 w sp tb g cap p ms false)(hw:G5 p ms)(s:Int)(c:Nat)(hs:y8 p s=true)(Ad:2≤c)(Cs:c≤51):Calls Tryz.prog 248 #[.pointer (some ⟨sp,0,none⟩),.agg #[.int .i64 s,.int .i64 c]] w fun r w'=>r= .returned (.bool ((wd ms (G8 p s)).testBit c))∧z6 [] w w':=by
 have TA:=(z8 [] w).alloc (.cells #[.int .i64 s,.int .i64 c] 53);have BX:=j4.new w 53 #[.int .i64 s,.int .i64 c];have hA:=h.q8 TA;have HM:=O (Ei hA);have XT:=p7 (fun W t=>fq tb p vs vp vc vi vf s W hu.hp hu.we.dn (hu.at_.q8 (h.t0.Y t)));have q0:=(BX.cell 0).trans rfl;have q1:=(BX.cell 1).trans rfl;have c0:=(hA.st.cell 0).trans rfl;have c1:=(hA.st.cell 1).trans rfl;have c2:=(hA.st.cell 2).trans rfl;obtain⟨h1,h2⟩:=X0 hs;have vj:G8 p s<ms.length:=by rw[h.len];exact h1
 have c3:=hA.lb.at_ vj;rw[←Tl vj]at c3;have mz:((G8 p s:Nat):Int)< (ms.length:Int):=by omega
 have CM:(0:Int)≤((G8 p s:Nat):Int):=by omega
 have PV:=aS (wd ms (G8 p s)) c (hw.bits _).lt;have V0:=O TA;rw[hs]at XT;simp only[if_true]at XT;have hr3: ¬(c:Int)<2:=by omega
 have hr4: ¬(51:Int)< (c:Int):=by omega
 have hr5: ¬(c:Int)<0:=by omega
 generalize wd ms (G8 p s)=m at*;generalize G8 p s=ix at*;generalize m.testBit c=tc at*;clear TA BX hA h hu h1 h2 hs Ad Cs hw vj
 cases tc with
 | false=>
  simp only[Uc,if_false]at PV;go_enter Tryz.func248,Tryz.ntmps248;go_wp2_with fail;refine HM.o.mono ?_;rintro r w1 ⟨rfl,rfl⟩;go_wp2_with fail;go_quiet ((first | (go_at_call 264;exact x8 (XT.o _ (V0.o.drewN _)))));go_wp2_with fail;go_quiet (fail);go_wp2_with fail;go_ret;exact⟨rfl,(V0.o.drewN _).drewN _⟩
 | true=>
  simp only[if_true]at PV;go_enter Tryz.func248,Tryz.ntmps248;go_wp2_with fail;refine HM.o.mono ?_;rintro r w1 ⟨rfl,rfl⟩;go_wp2_with fail;go_quiet ((first | (go_at_call 264;exact x8 (XT.o _ (V0.o.drewN _)))));go_wp2_with fail;go_quiet (fail);go_wp2_with fail;go_ret;exact⟨rfl,(V0.o.drewN _).drewN _⟩
theorem pi {cap:Nat}(h:Vk w0 w sp tb g cap p ms cf)(hb: ∀i,Aq (wd ms i))(hl:ms.length≤512)(Qm:0<ms.length):Calls Tryz.prog 215 #[.pointer (some ⟨sp,0,none⟩)] w fun r w'=> ∃qI g' Ak,r= .returned (.pointer (some ⟨qI,0,none⟩))∧Vk w0 w' qI tb g' Ak p ms cf∧w.heap.size≤qI∧w.heap.size≤g'∧z6 [] w w':=by
 have HM:=O (Ei h);have HS:=p7 (fun W t=>h.q8 t);have HC:=p7 (fun W t=>show W.cell? ⟨sp,0,none⟩=some (.pointer (some ⟨tb,0,none⟩))∧W.cell? ⟨sp,1,none⟩=some (.slice (some ⟨g,0,none⟩) ms.length cap)∧W.cell? ⟨sp,2,none⟩=some (.bool cf)from⟨((h.q8 t).st.cell 0).trans rfl,((h.q8 t).st.cell 1).trans rfl,((h.q8 t).st.cell 2).trans rfl⟩);obtain⟨c0,c1,c2⟩:=HC.o w (z8 _ _);have HH:=O h;clear h;go_enter Tryz.func215,Tryz.ntmps215;go_wp2_with fail;refine HM.o.mono ?_;rintro r w1 ⟨rfl,rfl⟩;go_wp2_with fail;clear c0 c1 c2;refine wp_region_held_drew (S:=fun W=>z6 [] w W) (by kernel_rfl) (z8 _ w).drew (fun hS=> ?_);refine kw 0 hS ?_;refine kw 1 hS ?_;refine kw 2 hS ?_;refine kw 3 hS ?_ (hy:=by intro W m7;obtain⟨e0,e1,e2⟩:=HC.o W m7;go_simp<;>rfl);refine kw 4 hS ?_;refine kw 5 hS ?_;refine kw 6 hS ?_;refine kw 7 hS ?_ (hy:=by intro W m7;obtain⟨e0,e1,e2⟩:=HC.o W m7;go_simp<;>rfl);refine kw 9 hS ?_;refine kw 10 hS ?_;refine kw 11 hS ?_;refine kw 12 hS ?_ (hy:=by intro W m7;obtain⟨e0,e1,e2⟩:=HC.o W m7;go_simp<;>rfl);refine s8 8 rfl (fun K hK=> ?_);refine l7 uU (Own.nil _ _ _) (Own.reads (HS.o _ hS).lb) (by simp[y6,Value.oneCell']) (by omega) (by unfold maxLen;omega) ?_;intro v4 w4 OJ gO hf4;simp only[O3,Qy]at OJ;have rA:=hS.Y (gO.ql2 (by simp[m5]));obtain⟨g',Ak,rfl⟩:=LB.addr (ms:=ms) OJ Qm
 have ma:Hid (w.heap.size≤g'):=O (by
  rcases hf4 g' (by simp[m5])with h1 | h1
  ·simp[m5]at h1
  ·exact j9 hS.size h1)
 have qr1:Hid (g'<w4.heap.size):=O (World.block_lt_of_cell? w4 _ (LB.at_ (ms:=ms) OJ Qm));have W_:Hid (LB w4 (.slice (some ⟨g',0,none⟩) ms.length Ak) ms):=O OJ;clear gO hf4 OJ;refine zk6 hK rA ?_;clear hK K;refine s8 13 rfl (fun K hK=> ?_);go_simp;refine zk6 hK rA ?_;clear hK K;refine s8 14 rfl (fun K hK=> ?_);go_simp;refine zk6 hK (rA.alloc _) ?_;clear hK K;refine s8 15 rfl (fun K hK=> ?_);go_simp;refine zk6 hK (rA.alloc _) ?_;clear hK K;refine wpAnyH_done (by kernel_rfl) ?_ _;go_wp2_with fail;go_ret;exact⟨_,g',Ak,rfl,⟨HH.o.t0.Y (rA.alloc _),j9 HH.o.t0.size rA.size,j9 HH.o.t0.size ma.o,W5 (Nat.ne_of_lt qr1.o),W6 qr1.o ((z8 [] w4).alloc _).size,HH.o.len,j4.new w4 _ _,W_.o.q8 ((z8 [] w4).alloc _)⟩,rA.size,ma.o,rA.alloc _⟩
theorem Yt:Gf Tryz.prog 32 53 2 16:=Gf.mk Tryz.underlying32 (z:= .agg #[.int .i64 0,.int .i64 0]) (by kernel_rfl) rfl (by decide)
def Mr (p:Px)(ms:List Nat)(k:Nat):List Cx:=((List.range k).filter (fun i=>n7 (wd ms i) !=0)).map (fun i=>⟨sd p i,n7 (wd ms i)⟩)
theorem ym (h:n7 (wd ms k)=0):Mr p ms (k+1)=Mr p ms k:=by simp[Mr,List.range_succ,cV,h]
theorem uQ (h:n7 (wd ms k)≠0):Mr p ms (k+1)=Mr p ms k++ [⟨sd p k,n7 (wd ms k)⟩]:=by simp[Mr,List.range_succ,cV,h]
theorem uR (p:Px)(ms:List Nat)(k:Nat):(Mr p ms k).length≤k:=by
 unfold Mr;rw[Cy];exact j9 (L3 _ _) (by simp)
def qx9 (w:World)(p:Px)(ms:List Nat)(n:Nat)(tl ti:Value)(wr:World):Prop:= ∃k:Nat,k≤n∧ti= .int .i64 k∧Own wr 53 2 tl (Mr p ms k).length ((Mr p ms k).flatMap Cx.cells)∧z6 [] w wr∧ ∀b∈m5 tl,w.heap.size≤b
theorem vK {w2:World}(h:z6 [] w w1)(hn: ∀g∈m5 v,w.heap.size≤g)(h2:z6 (m5 v) w1 w2):z6 [] w w2:=h.step h2 (fun m hm=> .inr (hn m hm))
theorem zy {v':Value}(h:z6 [] w w1)(hn: ∀g∈m5 v,w.heap.size≤g)(hf:S2 w1 v v'): ∀g∈m5 v',w.heap.size≤g:=fun g hg=>by
 rcases hf g hg with h1 | h1
 ·exact hn g h1
 ·exact j9 h.size h1
theorem AV {cap:Nat}(hu:xL w0 tb p vs vp vc vi vf)(h:Vk w0 w sp tb g cap p ms false)(hw:G5 p ms):Calls Tryz.prog 247 #[.pointer (some ⟨sp,0,none⟩)] w fun r w'=> ∃v,r= .returned v∧Q0 w' v (Mr p ms p.D.length)∧z6 [] w w'∧ ∀b∈m5 v,w.heap.size≤b:=by
 have HM:=O (Ei h);have St:=O (fun(W:World) (t:z6 [] w W) (k:Nat) (hk:k<p.D.length)=>Om sp _ _ _ ms k W (h.q8 t).st (h.lb.q8 t) (by rw[h.len];exact hk) (hw.bits k) (hu.t64.q8 (h.t0.Y t)));have CY:=O (fun(k:Nat)=>Hf (hw.bits k));have HSR:=O (fun(k:Nat) (hk:k<p.D.length)=>hu.hp.sr k hk);obtain⟨Av,cv,rfl⟩:=hu.at_.st.form;have HC:=p7 (fun W t=>show W.cell? ⟨sp,0,none⟩=some (.pointer (some ⟨tb,0,none⟩))∧W.cell? ⟨sp,1,none⟩=some (.slice (some ⟨g,0,none⟩) ms.length cap)∧W.cell? ⟨sp,2,none⟩=some (.bool false)∧W.cell? ⟨tb,0,none⟩=some (.slice Av (l5 p.D).length cv)∧e8 W (.slice Av (l5 p.D).length cv) (l5 p.D)from⟨((h.q8 t).st.cell 0).trans rfl,((h.q8 t).st.cell 1).trans rfl,((h.q8 t).st.cell 2).trans rfl,(hu.at_.q8 (h.t0.Y t)).c0,hu.at_.st.q8 (h.t0.Y t)⟩);have hlen:=h.len;have R6:=hu.we.dn;have Rm:Hid ((l5 p.D).length=p.D.length):=O (by simp[l5]);obtain⟨c0,c1,c2,c3,-⟩:=HC.o w (z8 _ _);clear h hu hw;go_enter Tryz.func247,Tryz.ntmps247;go_wp2_with fail;refine HM.o.mono ?_;rintro r w1 ⟨rfl,rfl⟩;go_wp2_with fail;clear c0 c1 c2 c3;go_loopw [3,19] (fun tl ti wr=>qx9 w p ms ms.length tl ti wr) (fun _ ti _=>ms.length - (intOf ti).toNat)
 case atStart=>exact⟨0,by omega,rfl,Own.nil _ _ _,z8 _ _,by simp[m5]⟩
 case round=>
  obtain⟨k,hk,rfl,ho,ht,hf⟩:=hrel;by_cases Z:k<ms.length
  ·have j1:(k:Int)< (ms.length:Int):=by omega
   have HO:=O ho;have HT:=O ht;have HF:=O hf;obtain⟨R1,R2⟩:=CY.o k;have HS:=O (HSR.o k (by omega));have HK:=O (St.o wr ht k (by omega));have T4:=O (fun e=>ym (p:=p) (ms:=ms) (k:=k) e);have gZ:=O (fun e=>uQ (p:=p) (ms:=ms) (k:=k) e);generalize n7 (wd ms k)=dd at*;clear ho ht hf;go_wp2_with fail;refine HK.o.mono ?_;rintro r w2 ⟨rfl,t2⟩;have B4:=O (HT.o.Y t2);have xQ:=O (Own.q8 HO.o t2);clear t2;by_cases hz:dd=0
   ·have hb:(dd !=0)=false:=by simpa using hz
    go_wp2_with fail;exact⟨⟨k+1,Z,by go_num,by rw[T4.o hz];exact xQ.o,B4.o,HF.o⟩,by simp[intOf];omega⟩
   ·have hb:(dd !=0)=true:=by simpa using hz
    obtain⟨c0,c1,c2,c3,mL⟩:=HC.o w2 B4.o;have hks:k< (l5 p.D).length:=by rw[Rm.o];omega
    obtain⟨b,off,rfl,U3⟩:=mL.addr hks;have c4:=e8.at_ mL hks;have hsd:(l5 p.D)[k]=sd p k:=by unfold sd;rw[Bz,j6 hks];rfl
    rw[hsd]at c4;have zj8:(k:Int)< ((l5 p.D).length:Int):=by omega
    have Em:(0:Int)≤(k:Int):=by omega
    have hfl:=uR p ms k;have ho:=xQ.o;generalize sd p k=sk at*;clear mL hks hsd U3;go_wp2_with (at_builtin;go_must (refine Ah Yt ho [Value.int .i64 sk,Value.int .i64 dd] 1 1 (by omega) (by unfold maxLen;omega) ?_);intro v10 ZO zd0 RG ze3);exact⟨⟨k+1,Z,by go_num,by rw[gZ.o hz,Ec,Tz];simpa[Cx.cells,I]using zd0,vK B4.o HF.o RG,zy B4.o HF.o ze3⟩,by simp[intOf];omega⟩
  ·have j1: ¬(k:Int)< (ms.length:Int):=by omega
   obtain rfl:k=ms.length:=by omega
   obtain⟨A0,c0,rfl⟩:=Own.form ho;have HR:=O (Own.reads ho);have HT:=O ht;have DE:=O hf;clear ho hf ht;go_wp2_with fail;go_ret;rw[←hlen];refine⟨_,rfl,⟨HR.o,fun x hx=> ?_⟩,HT.o,DE.o⟩;unfold Mr at hx;obtain⟨i,hi,rfl⟩:=F4.1 hx;have h1:=Gj.1 (G4.1 hi).1;have h2:=CY.o i;have h3:=HSR.o i (by omega);exact⟨by unfold Fits;simp only;omega,by unfold Fits;simp only;omega⟩
def bW (l:List Cx):Nat→Int:=l.foldl (fun f c=>fun s=>if(s:Int)=c.a then c.b else f s) (fun _=>0)
theorem BP {l:List Cx}(hk:k<l.length):bW (l.take (k+1))=fun s:Nat=>if(s:Int)=l[k].a then l[k].b else bW (l.take k) s:=by
 unfold bW;rw[Cw hk,kJ];rfl
def onK (p:Px)(ms:List Nat)(k s:Nat):Int:=if y8 p (s:Int)=true∧G8 p (s:Int)<k then n7 (wd ms (G8 p (s:Int)))else 0
theorem vG {p:Px}(hp:j8 p){ms:List Nat}: ∀k,k≤p.D.length→ ∀s,bW (Mr p ms k) s=onK p ms k s
 | 0,_,s=>by simp[Mr,bW,onK]
 | k+1,hk,s=>by
  have ih:=vG hp (ms:=ms) k (by omega) s
  have e:G8 p (s:Int)=k∧y8 p (s:Int)=true↔(s:Int)=sd p k:=by
   constructor
   ·rintro⟨h1,h2⟩;rw[←h1];exact(X0 h2).2.symm
   ·intro h;rw[h];exact⟨hp.ix (by omega),dD (by omega)⟩
  by_cases h0:n7 (wd ms k)=0
  ·rw[ym h0,ih];unfold onK;by_cases h1:y8 p (s:Int)=true∧G8 p (s:Int)<k
   ·rw[x9 h1,x9 ⟨h1.1,by omega⟩]
   ·rw[z9 h1];split
    ·rename_i h2;have:G8 p (s:Int)=k:=Nat.le_antisymm (Nat.lt_succ_iff.1 h2.2) (Nat.not_lt.1 (fun h3=>h1 ⟨h2.1,h3⟩));rw[this,h0]
    ·rfl
  ·rw[uQ h0];unfold bW;rw[kJ];show(if(s:Int)=sd p k then n7 (wd ms k)else bW (Mr p ms k) s)=_;rw[ih];unfold onK;by_cases h1:(s:Int)=sd p k
   ·rw[x9 h1];obtain⟨h2,h3⟩:=e.2 h1;rw[x9 ⟨h3,by omega⟩,h2]
   ·rw[z9 h1];by_cases h2:y8 p (s:Int)=true∧G8 p (s:Int)<k
    ·rw[x9 h2,x9 ⟨h2.1,by omega⟩]
    ·rw[z9 h2,z9];rintro⟨h3,h4⟩;have:G8 p (s:Int)=k:=Nat.le_antisymm (Nat.lt_succ_iff.1 h4) (Nat.not_lt.1 (fun h5=>h2 ⟨h3,h5⟩));exact h1 (e.1 ⟨this,h3⟩)
theorem SS (hl:ms.length=p.D.length)(s:Nat):onK p ms p.D.length s=wh p ms s:=by
 unfold onK wh;split
 ·rfl
 ·rename_i h
  have h1:y8 p (s:Int)=false:=by
   cases e:y8 p (s:Int)with
   | false=>rfl
   | true=>exact absurd ⟨e,(X0 e).1⟩ h
  have h2:G8 p (s:Int)=p.D.length:=by
   unfold G8
   have h3:(l5 p.D).findIdx (fun t=>t==(s:Int))=(l5 p.D).length:=by
    rw[List.findIdx_eq_length];intro x hx;unfold y8 at h1
    cases e:(x==(s:Int))with
    | false=>rfl
    | true=>
     have e2:x=(s:Int):=by simpa using e
     rw[e2]at hx;have:(l5 p.D).contains (s:Int)=true:=by simpa using hx
     rw[h1]at this;cases this
   rw[h3];simp[l5]
  rw[h2]
  have h3:wd ms p.D.length=0:=by
   unfold wd;rw[←hl];simp
  rw[h3,lC]
def qy8 (w1:World)(g2:Nat)(l:List Cx)(ti:Value)(wr:World):Prop:= ∃k:Nat,k≤l.length∧ti= .int .i64 k∧z6 [g2] w1 wr∧Hid (j4 wr g2 154 (U0 (bW (l.take k))))
theorem Yr {cap:Nat}(hu:xL w0 tb p vs vp vc vi vf)(h:Vk w0 w sp tb g cap p ms false)(hw:G5 p ms):Calls Tryz.prog 218 #[.pointer (some ⟨sp,0,none⟩)] w fun r w'=>r= .returned (.agg (U0 (fun s=>wh p ms s)))∧z6 [] w w':=by
 have HFX:=p7 (fun W t=>AV hu (h.q8 t) hw);have EO:Hid (U0 (bW (Mr p ms p.D.length))=U0 (fun s=>wh p ms s)):=O (Hi (fun s _=>by rw[vG hu.hp _ (a9 _),SS h.len]))
 have HSR:Hid (∀x∈Mr p ms p.D.length,0≤x.a∧x.a<512):=O (fun x hx=>by
  unfold Mr at hx;obtain⟨i,hi,rfl⟩:=F4.1 hx;have h1:=Gj.1 (G4.1 hi).1;have h3:=hu.hp.sr i h1;simp only
  omega)
 have hfl:(Mr p ms p.D.length).length≤512:=j9 (uR p ms _) hu.we.dn;generalize Mr p ms p.D.length=l at*;have hz:=Pn;have Fw:z6 [] w ((w.alloc (.cells (U0 (fun _=>0)) 154)).alloc (.cells (U0 (fun _=>0)) 154)):=((z8 [] w).alloc _).alloc _;have b1:=(j4.new w 154 (U0 (fun _=>0))).alloc (.cells (U0 (fun _=>0)) 154);have b2:=j4.new (w.alloc (.cells (U0 (fun _=>0)) 154)) 154 (U0 (fun _=>0));simp only[World.size_alloc]at b2;clear h hu hw;go_enter Tryz.func218,Tryz.ntmps218;go_wp2_with fail;generalize El:(w.alloc _).alloc _=w1 at b1 b2 Fw⊢;clear El;obtain⟨g1,hg⟩: ∃g1,g1=w.heap.size:=⟨_,rfl⟩;rw[←hg]at b1 b2⊢;have bL:=O hg;have Ag:=O b1;have O5:=O b2;have V0:=O Fw;clear hg b1 b2 Fw;refine(HFX.o _ V0.o).mono ?_;rintro r w2 ⟨v,rfl,hv,t2,PQ⟩;obtain⟨A,cv,rfl⟩:=hv.form;have HV:=O hv;have yN:=O (Ag.o.z7 t2 (by simp));have RU:=O (O5.o.z7 t2 (by simp));have B4:=O (V0.o.Y t2)
 have HVB:Hid (∀b∈rb (Value.slice A l.length cv),b∉ [g1+1]):=O (fun b hb U3=>by
  have h1:=PQ b (Gp _ b hb);have h2:=O5.o.lt;rw[y7]at U3
  omega)
 clear hv t2 hz PQ;go_wp2_with fail;go_loopw [9] (fun ti wr=>qy8 w2 (g1+1) l ti wr) (fun ti _=>l.length - (intOf ti).toNat)
 case atStart=>exact⟨0,by omega,rfl,z8 _ _,O (by simpa[bW]using RU.out)⟩
 case round=>
  clear O5 RU;obtain⟨k,hk,rfl,ht,Hm⟩:=hrel;have HVR:=O (C7.z7 HV.o ht HVB.o);by_cases Z:k<l.length
  ·have j1:(k:Int)< (l.length:Int):=by omega
   have aZ:=HVR.o;obtain⟨b,off,rfl,hb⟩:=aZ.addr Z;obtain⟨ca,cb⟩:=Q0.at_ aZ Z;obtain⟨s1,s2⟩:=HSR.o _ (k8 Z);have Q9:=O (BP Z);obtain⟨n,hn⟩:=K5 s1;rw[hn]at ca s2 Q9;generalize l[k].b=xb at*;have OL:(n:Int)<512:=by omega
   have vw:(0:Int)≤(n:Int):=by omega
   have S_:Hid (n<512):=O (by omega);have HT:=O (ht.alloc (.cells #[.int .i64 n,.int .i64 xb] 53));have aC:=O (Hm.o.alloc (.cells #[.int .i64 n,.int .i64 xb] 53));have BX:=j4.new wr 53 #[.int .i64 n,.int .i64 xb];have q0:=(BX.cell 0).trans rfl;have q1:=(BX.cell 1).trans rfl;have g4:=aC.o.frozen n;have g5:=aC.o.lt;have g3:(wr.alloc (.cells #[.int .i64 n,.int .i64 xb] 53)).cell? ⟨g1+1,n,none⟩=some (.int .i64 (bW (l.take k) n)):=(aC.o.cell n).trans (Ds _ S_.o);generalize bW (l.take k)=F at*;clear aZ s1 hn ht hk Hm hb BX;go_wp2_with fail
   have HE:Hid (z6 [g1+1] w2 ((wr.alloc (.cells #[.int .i64 n,.int .i64 xb] 53)).setCell ⟨g1+1,n,none⟩ (.int .i64 xb))∧j4 ((wr.alloc (.cells #[.int .i64 n,.int .i64 xb] 53)).setCell ⟨g1+1,n,none⟩ (.int .i64 xb)) (g1+1) 154 (U0 (bW (l.take (k+1))))):=O ⟨HT.o.setCell (.inl (by simp)) _,by
    rw[Q9.o];have h:=aC.o.V8 n (.int .i64 xb);rw[eU]at h
    have e:U0 (fun i=>if i=n then xb else F i)=U0 (fun s:Nat=>if(s:Int)=(n:Int)then xb else F s):=Hi (fun i _=>by
     by_cases hi:i=n
     ·rw[x9 hi,x9 (by omega)]
     ·rw[z9 hi,z9 (by omega)])
    rw[←e]
    exact h⟩
   exact⟨⟨k+1,by omega,by go_num,HE.o.1,O HE.o.2⟩,by simp[intOf];omega⟩
  ·have j1: ¬(k:Int)< (l.length:Int):=by omega
   have gX:=Hm.o;have Qj:=yN.out.z7 ht (by simp);rw[N2 (by omega),EO.o]at gX;have gX:=O gX;have Qj:=O Qj;have Q8:=O (B4.o.step ht (fun m hm=> .inr (by rw[y7]at hm;have:=bL.o;omega)));clear ht Hm;go_wp2_with (first | (refine zA gX.o ?_) | (refine Sa Qj.o ?_;intro w7 b7 t7));refine bodyPost_ret (results_cell_row rfl _ w7 g1 154 (U0 (fun s=>wh p ms s)) (0,0) _ rfl b7 Tryz.underlying154 rfl (by rw[S0];exact Ui)) rfl ⟨rfl,?_⟩;exact Q8.o.step t7 (fun m hm=> .inr (by rw[y7]at hm;have:=bL.o;omega))
end Go.Proofs.YtlhlmcohdkkjpaaGreatDoor
