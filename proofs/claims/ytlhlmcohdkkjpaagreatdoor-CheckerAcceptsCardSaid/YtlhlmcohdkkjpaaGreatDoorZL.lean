/- Layer 18, the document: Drop. -/
import Derived.Test.YtlhlmcohdkkjpaaGreatDoorZK
set_option linter.all false
set_option maxHeartbeats 16000000
set_option maxRecDepth 100000
namespace Go.Proofs.YtlhlmcohdkkjpaaGreatDoor
open Go.RowKit
def I3 (s c st:Int)(c':Int):Bool:=st !=s || c' !=c
def Tt (s c:Int)(x:Dx):Dx:=⟨x.st,x.ch.filter (I3 s c x.st)⟩
def Y3 (s c:Int)(d:List Dx):List Dx:=d.map (Tt s c)
variable{c c' s s':Int}{d:List Dx}{k n:Nat}
theorem fO :J1 (Y3 s c d) s' c'↔J1 d s' c'∧ ¬(s'=s∧c'=c):=by
 unfold J1 Y3;constructor
 ·rintro⟨y,hy,h1,h2⟩;obtain⟨x,hx,rfl⟩:=F4.1 hy;unfold Tt at h1 h2;obtain⟨h3,h4⟩:=G4.1 h2;refine⟨⟨x,hx,h1,h3⟩,fun h=> ?_⟩;unfold I3 at h4;simp only at h1;rw[h1,h.1,h.2]at h4;simp at h4
 ·rintro⟨⟨x,hx,h1,h2⟩,hn⟩;refine⟨_,F4.2 ⟨x,hx,rfl⟩,h1,G4.2 ⟨h2,?_⟩⟩;unfold I3;rw[S9];by_cases hs:x.st=s
  ·right;have:c'≠c:=fun e=>hn ⟨h1.symm.trans hs,e⟩;simpa using this
  ·left;simpa using hs
theorem xk (hk:k<d.length):Y3 s c (d.take (k+1))=Y3 s c (d.take k)++ [Tt s c d[k]]:=by
 unfold Y3;rw[Cw hk,Yi];rfl
def Va (d':List Dx)(w:World)(r:Ending)(w':World):Prop:= ∃A cap,r= .returned (.slice A d'.length cap)∧C0 w' (.slice A d'.length cap) d'∧z6 [] w w'
def ZL (w:World)(s c:Int)(d:List Dx)(tv ti:Value)(wr:World):Prop:= ∃k:Nat,k≤d.length∧ti= .int .i64 (k:Int)∧z6 [] w wr∧Hid (L4 wr tv (Y3 s c (d.take k)))∧Hid (∀b∈m5 tv,w.heap.size≤b)
def Yo (w1:World)(g:Nat)(s c st:Int)(ch:List Int)(ti:Value)(wq:World):Prop:= ∃(m:Nat) (A:Option Addr) (cap:Nat),m≤ch.length∧ti= .int .i64 (m:Int)∧z6 [g] w1 wq∧Hid (j4 wq g 75 #[.int .i64 st,.slice A ((ch.take m).filter (I3 s c st)).length cap])∧Hid (Own wq 3 1 (.slice A ((ch.take m).filter (I3 s c st)).length cap) ((ch.take m).filter (I3 s c st)).length (((ch.take m).filter (I3 s c st)).flatMap Ao))∧Hid (∀b∈m5 (.slice A ((ch.take m).filter (I3 s c st)).length cap),w1.heap.size≤b)
theorem Yo.put {w1 wq:World}{g:Nat}{st:Int}{ch:List Int}{m:Nat}{A:Option Addr}{cap:Nat}{qs:List Int}(hm:m≤ch.length)(hq:(ch.take m).filter (I3 s c st)=qs)(hn:qs.length=n)(t:z6 [g] w1 wq)(b:j4 wq g 75 #[.int .i64 st,.slice A n cap])(o:Own wq 3 1 (.slice A n cap) n (qs.flatMap Ao))(f: ∀b∈m5 (.slice A n cap),w1.heap.size≤b):Yo w1 g s c st ch (.int .i64 (m:Int)) wq:=by
 subst hq hn;exact⟨m,A,cap,hm,rfl,t,O b,O o,O f⟩
theorem lm (v:Value)(d:List Dx)(s c:Int)(w:World)(hv:C0 w v d)(hl:d.length≤100000)(WK: ∀x∈d,x.ch.length≤100000):Calls Tryz.prog 222 #[v,.int .i64 s,.int .i64 c] w (Va (Y3 s c d) w):=by
 obtain⟨A,cap,rfl,Ad,Cs⟩:=hv.form;have HT:=p7 (fun W t=>hv.q8 t);have HLC:=O WK;clear hv WK;go_enter Tryz.func222,Tryz.ntmps222;go_wp2_with fail;go_loopw [7,8] (fun tv ti wr=>ZL w s c d tv ti wr) (fun _ ti _=>d.length - (intOf ti).toNat)
 case atStart=>exact⟨0,by omega,rfl,z8 _ _,O (L4.nil w),O (Ic _)⟩
 case round=>
  obtain⟨k,hk,rfl,ht,HO,HN⟩:=hrel;obtain⟨Av,cv,rfl⟩:=HO.o.form;by_cases Z:k<d.length
  ·have j1:(k:Int)< (d.length:Int):=by omega
   have hD:=HT.o wr ht;obtain⟨b,off,cw,rfl,hb,I7,N0⟩:=hD.at_ Z;obtain⟨c0,c1,B8⟩:=N0 wr (z8 _ _);obtain⟨CH,Ja⟩:d[k].ch.length≤100000∧True:=⟨HLC.o _ (k8 Z),trivial⟩;obtain⟨A2,X2,rfl⟩:=B8.form;have jS:=O B8;have Rw:=O I7;have HCD:=p7 (fun W' t=>(N0 W' t).2.1);have Ko:=p7 (fun W' t=>(N0 W' t).1);have HS:=O (xk (s:=s) (c:=c) Z);have rI:Hid ((Y3 s c (d.take k)).length≤100000):=O (by unfold Y3;rw[Cy,Y8];omega);clear hD N0 B8 I7;unfold Tt at HS;generalize d[k].st=st at*;generalize d[k].ch=ch at*;generalize Y3 s c (d.take k)=ds at*;have B4:=O ht;have V0:=O ((z8 [] wr).alloc (.cells #[.int .i64 st,.slice none 0 0] 75));have bx:=j4.new wr 75 #[.int .i64 st,.slice none 0 0];clear ht;go_wp2_with fail;clear c0 c1;have qf2:=O bx;clear bx;generalize gN:wr.alloc _=w1 at*;clear gN;obtain⟨gx,Mi⟩: ∃gx,gx=wr.heap.size:=⟨_,rfl⟩;rw[←Mi]at qf2⊢;have Vv:=O Mi;clear Mi;generalize wr=wa at*;go_loopw [10] (fun ti wq=>Yo w1 gx s c st ch ti wq) (fun ti _=>ch.length - (intOf ti).toNat)
   case atStart=>exact⟨0,none,0,by omega,rfl,z8 _ _,O qf2.o,O (Own.nil _ _ _),O (Ic _)⟩
   case round=>
    clear qf2;obtain⟨m,Ax,cx,hm,rfl,ht,N6,Iy,W7⟩:=hrel;have Zy:=O (V0.o.step ht (fun i hi=> .inr (by rw[y7]at hi;have:=Vv.o;omega)));have c1:=HCD.o _ Zy.o;have c0:=Ko.o _ Zy.o;by_cases Q7:m<ch.length
    ·have Jo:(m:Int)< (ch.length:Int):=by omega
     have B8:=jS.o.q8 Zy.o;obtain⟨b2,Hn,rfl,U3⟩:=B8.addr Q7;have c3:=e8.at_ B8 Q7;have H3:=p7 (fun W' t=>e8.at_ (jS.o.q8 t) Q7);have HFS:=O (F9 (I3 s c st) ch Q7);have Xw:Hid (((ch.take m).filter (I3 s c st)).length≤100000):=O (j9 (L3 _ _) (by rw[Y8];omega));clear B8;generalize ch[m]=y at*;generalize OH:(ch.take m).filter (I3 s c st)=qs at*;clear OH;obtain⟨n,hn⟩: ∃n,n=qs.length:=⟨_,rfl⟩;rw[←hn]at N6 Iy W7 Xw;have QM:=O hn;clear hn;have FX:Hid (I3 s c st y=true→(ch.take (m+1)).filter (I3 s c st)=qs++ [y]):=O (fun e=>by rw[HFS.o,x9 e]);have RQ:Hid (I3 s c st y=false→(ch.take (m+1)).filter (I3 s c st)=qs):=O (fun e=>by rw[HFS.o,z9 (by rw[e];simp)]);clear HFS;unfold I3 at FX RQ;have QU:=O (fun W' (t:z6 [] wa W')=>H3.o W' t);have HKX:Hid (∀W',j4 W' gx 75 #[.int .i64 st,.slice Ax n cx]→z6 [gx] w1 W'→W'.cell? ⟨gx,1,none⟩=some (.slice Ax n cx)∧W'.cell? ⟨b,off+k*2+1,none⟩=some (.slice (some ⟨b2,Hn,none⟩) ch.length X2)∧W'.cell? ⟨b2,Hn+m,none⟩=some (.int .i64 y)):=O (fun W' hb ht=>⟨(hb.cell 1).trans rfl,HCD.o _ (V0.o.step ht (fun i hi=> .inr (by rw[y7]at hi;have:=Vv.o;omega))),QU.o _ (V0.o.step ht (fun i hi=> .inr (by rw[y7]at hi;have:=Vv.o;omega)))⟩);have HK:=O (fun W' (t:z6 [] wr W')=>HKX.o W' (N6.o.z7 t (by simp)) (ht.Y t));have HQX:=O (fun(W:World) (t:z6 [] wr W) (W':World) (t2:z6 (m5 (.slice Ax n cx)) W W')=>(ht.Y t).step t2 (fun i hi=> .inr (W7.o i hi)));have gS:=O ht.size;have hQ:=z8 [] wr;have QJ:=O ht;clear ht;by_cases h1:st=s
     ·have e1:(st !=s)=false:=by simpa using h1
      by_cases h2:y=c
      ·have e2:(y !=c)=false:=by simpa using h2
       have HK0:=O (RQ.o (by rw[e1,e2];rfl));have HE:Hid (Yo w1 gx s c st ch (.int .i64 ((m+1:Nat):Int)) wr):=O (Yo.put Q7 HK0.o QM.o.symm QJ.o N6.o Iy.o W7.o);clear h1 h2 hQ;go_wp2_with fail;go_roundw
       case rel=>exact HE.o
       case measure=>simp[intOf];omega
      ·have e2:(y !=c)=true:=by simpa using h2
       have HK1:=O (FX.o (by rw[e1,e2];rfl));clear h1 h2 FX RQ;go_wp2_with fail;clear c0 c1 c3;refine n6 (fun W'=>W'.cell? ⟨gx,1,none⟩=some (.slice Ax n cx)∧W'.cell? ⟨b,off+k*2+1,none⟩=some (.slice (some ⟨b2,Hn,none⟩) ch.length X2)∧W'.cell? ⟨b2,Hn+m,none⟩=some (.int .i64 y)) 13 (by kernel_rfl) ?_;refine tk 0 (HK.o _ hQ.drew) ?_;refine tk 1 (HK.o _ hQ.drew) ?_;refine tk 2 (HK.o _ hQ.drew) ?_;refine tk 3 (HK.o _ hQ.drew) ?_;refine tk 4 (HK.o _ hQ.drew) ?_;refine tk 5 (HK.o _ hQ.drew) ?_;refine tk 6 (HK.o _ hQ.drew) ?_;refine tk 7 (HK.o _ hQ.drew) ?_;refine tk 8 (HK.o _ hQ.drew) ?_;refine tk 9 (HK.o _ hQ.drew) ?_;refine tn 10 (fun K hK=> ?_);go_simp;go_wp2_with fail;refine YU hK (HK.o _ (hQ.drew.alloc _)) ?_;clear hK K;refine tn 11 (fun K hK=> ?_);refine l7 Jz (Iy.o.q8 (hQ.drew.alloc _)) (J0 _ 3 [.int .i64 y] 1 1 rfl (by decide)) (by simp[Value.oneCell']) (by have:=Xw.o;omega) (by have:=Xw.o;unfold maxLen;omega) ?_;intro v11 X6 r8 Q6 X9;obtain⟨Mq,Mo,rfl⟩:=r8.form;have Xu:=O (HQX.o _ (hQ.alloc _).drew _ Q6);have Ip:=(N6.o.z7 (hQ.alloc _).drew (by simp)).v7 Q6 (fun b hb=>⟨_,(Iy.o.q8 (hQ.alloc _).drew).kd b hb,by decide⟩);have Ik:=(Ip.cell 1).trans rfl;have f11:=Ip.frozen 1;refine YU hK (HKX.o _ Ip Xu.o) ?_;clear hK K;refine tk 12 (HKX.o _ Ip Xu.o) ?_;refine tl (fun K hK=> ?_);go_simp;refine hK.o _ _ ?_;clear hK K;(try simp only[nz])
       have HE:Hid (Yo w1 gx s c st ch (.int .i64 ((m+1:Nat):Int)) (X6.setCell ⟨gx,1,none⟩ (.slice Mq (n+1) Mo))):=O (Yo.put (qs:=qs++ [y]) Q7 HK1.o (by simp[←QM.o]) (Xu.o.setCell (.inl (by simp)) _) (Ip.V8 1 _) (by have:=r8.v7 (L:= [gx]) ((z8 [gx] X6).setCell (p:=⟨gx,1,none⟩) (.inl (by simp)) (.slice Mq (n+1) Mo)) (fun b hb=>by rw[y7]at hb;subst hb;exact⟨_,Ip.kd,by decide⟩);simpa[Ao,I]using this) (fun b hb=>by
        rcases X9 b hb with e | e
        ·exact W7.o b e
        ·exact j9 gS.o (j9 ((hQ.alloc (.cells #[.int .i64 y] 3)).drew.size) e)))
       clear Xu Ip Ik f11 r8 Q6 X9 hQ;go_wp2_with fail;go_roundw
       case rel=>exact HE.o
       case measure=>simp[intOf];omega
     ·have e1:(st !=s)=true:=by simpa using h1
      have HK1:=O (FX.o (by rw[e1];rfl));clear h1 FX RQ;go_wp2_with fail;clear c0 c1 c3;refine n6 (fun W'=>W'.cell? ⟨gx,1,none⟩=some (.slice Ax n cx)∧W'.cell? ⟨b,off+k*2+1,none⟩=some (.slice (some ⟨b2,Hn,none⟩) ch.length X2)∧W'.cell? ⟨b2,Hn+m,none⟩=some (.int .i64 y)) 13 (by kernel_rfl) ?_;refine tk 0 (HK.o _ hQ.drew) ?_;refine tk 1 (HK.o _ hQ.drew) ?_;refine tk 2 (HK.o _ hQ.drew) ?_;refine tk 3 (HK.o _ hQ.drew) ?_;refine tk 4 (HK.o _ hQ.drew) ?_;refine tk 5 (HK.o _ hQ.drew) ?_;refine tk 6 (HK.o _ hQ.drew) ?_;refine tk 7 (HK.o _ hQ.drew) ?_;refine tk 8 (HK.o _ hQ.drew) ?_;refine tk 9 (HK.o _ hQ.drew) ?_;refine tn 10 (fun K hK=> ?_);go_simp;go_wp2_with fail;refine YU hK (HK.o _ (hQ.drew.alloc _)) ?_;clear hK K;refine tn 11 (fun K hK=> ?_);refine l7 Jz (Iy.o.q8 (hQ.drew.alloc _)) (J0 _ 3 [.int .i64 y] 1 1 rfl (by decide)) (by simp[Value.oneCell']) (by have:=Xw.o;omega) (by have:=Xw.o;unfold maxLen;omega) ?_;intro v11 X6 r8 Q6 X9;obtain⟨Mq,Mo,rfl⟩:=r8.form;have Xu:=O (HQX.o _ (hQ.alloc _).drew _ Q6);have Ip:=(N6.o.z7 (hQ.alloc _).drew (by simp)).v7 Q6 (fun b hb=>⟨_,(Iy.o.q8 (hQ.alloc _).drew).kd b hb,by decide⟩);have Ik:=(Ip.cell 1).trans rfl;have f11:=Ip.frozen 1;refine YU hK (HKX.o _ Ip Xu.o) ?_;clear hK K;refine tk 12 (HKX.o _ Ip Xu.o) ?_;refine tl (fun K hK=> ?_);go_simp;refine hK.o _ _ ?_;clear hK K;(try simp only[nz])
      have HE:Hid (Yo w1 gx s c st ch (.int .i64 ((m+1:Nat):Int)) (X6.setCell ⟨gx,1,none⟩ (.slice Mq (n+1) Mo))):=O (Yo.put (qs:=qs++ [y]) Q7 HK1.o (by simp[←QM.o]) (Xu.o.setCell (.inl (by simp)) _) (Ip.V8 1 _) (by have:=r8.v7 (L:= [gx]) ((z8 [gx] X6).setCell (p:=⟨gx,1,none⟩) (.inl (by simp)) (.slice Mq (n+1) Mo)) (fun b hb=>by rw[y7]at hb;subst hb;exact⟨_,Ip.kd,by decide⟩);simpa[Ao,I]using this) (fun b hb=>by
       rcases X9 b hb with e | e
       ·exact W7.o b e
       ·exact j9 gS.o (j9 ((hQ.alloc (.cells #[.int .i64 y] 3)).drew.size) e)))
      clear Xu Ip Ik f11 r8 Q6 X9 hQ;go_wp2_with fail;go_roundw
      case rel=>exact HE.o
      case measure=>simp[intOf];omega
    ·have Jo: ¬(m:Int)< (ch.length:Int):=by omega
     have M9:ch.take m=ch:=N2 (by omega);rw[M9]at N6 Iy W7;clear M9;generalize OH:ch.filter (I3 s c st)=qs at*;have HFQ:Hid (∀x∈qs,Fits x):=O (fun x hx=>by rw[←OH]at hx;exact jS.o.2 x (G4.1 hx).1);clear OH;have x0:wr.cell? ⟨gx,0,none⟩=some (.int .i64 st):=(N6.o.cell 0).trans rfl;have x1:wr.cell? ⟨gx,1,none⟩=some (.slice Ax qs.length cx):=(N6.o.cell 1).trans rfl;obtain⟨K1,g1,g2,g3⟩:=HO.o.z7 Zy.o (fun b hb=>by cases hb);have uw:Hid (Ed wr (.slice Ax qs.length cx) qs):=O ⟨⟨Iy.o.reads,HFQ.o⟩,fun b hb=>Iy.o.kd b (Gp _ b hb)⟩;have uu:=O g1;have wZ:=O g3;have xT:=O g2;have Q8:=O (B4.o.Y Zy.o);have QK:=O B4.o.size;clear ht c0 g1 g3 HO;go_wp2_with (at_builtin;go_must (refine Ah Ch g2 [.int .i64 st,.slice Ax qs.length cx] 1 1 (by have:=rI.o;omega) (by have:=rI.o;unfold maxLen;omega) ?_);intro v11 X6 r8 Q6 X9;obtain⟨Mq,Mo,rfl⟩:=r8.form)
     have HE:Hid (ZL w s c d (.slice Mq (ds.length+1) Mo) (.int .i64 ((k+1:Nat):Int)) X6):=O ⟨k+1,Z,rfl,Q8.o.step Q6 (fun i hi=> .inr (HN.o i hi)),O (by
      rw[HS.o]
      exact L4.push uu.o xT.o.kd wZ.o Rw.o uw.o Q6 r8),O (fun b hb=>by
      rcases X9 b hb with e | e
      ·exact HN.o b e
      ·exact j9 Q8.o.size e)⟩
     clear r8 Q6 X9 g2;go_wp2_with fail;go_roundw
     case rel=>exact HE.o
     case measure=>simp[intOf];omega
  ·have j1: ¬(k:Int)< (d.length:Int):=by omega
   have I1:d.take k=d:=N2 (by omega);have hle:(Y3 s c (d.take k)).length=(Y3 s c d).length:=by rw[I1]
   have HR:=HO.o.Ms;rw[hle,I1]at HR;have HR:=O HR;rw[hle];clear I1 HO HN hle;go_wp2_with fail;go_ret;exact⟨Av,cv,rfl,HR.o,ht⟩
section
variable {P:Program}{md:Region.Mode}{ops:Array Oper}{Q:Exit→Act→World→Prop}{S:World→Prop}{z:Nat}
theorem K6.two {i j:Nat}{oi oj:Oper}{L:Array Bool}{a:Act}{w:World}(hr:Region.ready md ops L= [i,j])(hi:ops[i]? =some oi)(hj:ops[j]? =some oj)
  (h1: ∀K:Act→World→Prop,Shut (∀a w,S w→K6 P md ops Q S z n (L.setIfInBounds i true) a w→K a w)→if Region.wanted oi (yielded ops a.tmps)=true then Oper.wp P oi a w K Q else K (a.put oi.dst undef) w)
  (h2: ∀K:Act→World→Prop,Shut (∀a w,S w→K6 P md ops Q S z n (L.setIfInBounds j true) a w→K a w)→if Region.wanted oj (yielded ops a.tmps)=true then Oper.wp P oj a w K Q else K (a.put oj.dst undef) w):K6 P md ops Q S z (n+1) L a w:=by
 refine⟨fun h0=>(by rw[hr]at h0;cases h0),fun k hk=> ?_⟩;rw[hr]at hk;rcases m6.1 hk with rfl | hk
 ·exact wpOp_step hi (fun K' hK=>h1 K' (fun a w hS hW=>hK a w ⟨fun _=>hS,hW⟩))
 ·obtain rfl:k=j:=by simpa using hk
  exact wpOp_step hj (fun K' hK=>h2 K' (fun a w hS hW=>hK a w ⟨fun _=>hS,hW⟩))
end
def Qv (s c:Int)(x:Dx):Dx:=if x.st=s then⟨x.st,if x.ch.contains c then [c]else []⟩else x
def S8 (s c:Int)(d:List Dx):List Dx:=d.map (Qv s c)
theorem Lw :J1 (S8 s c d) s' c'↔J1 d s' c'∧(s'=s→c'=c):=by
 unfold J1 S8;constructor
 ·rintro⟨y,hy,h1,h2⟩;obtain⟨x,hx,rfl⟩:=F4.1 hy;unfold Qv at h1 h2;by_cases hs:x.st=s
  ·rw[x9 hs]at h1 h2;simp only at h1 h2;by_cases hc:x.ch.contains c=true
   ·rw[x9 hc,y7]at h2;exact⟨⟨x,hx,h1,by rw[h2];simpa using hc⟩,fun _=>h2⟩
   ·rw[z9 hc]at h2;cases h2
  ·rw[z9 hs]at h1 h2;exact⟨⟨x,hx,h1,h2⟩,fun h=>absurd (h1.trans h) hs⟩
 ·rintro⟨⟨x,hx,h1,h2⟩,hn⟩;refine⟨_,F4.2 ⟨x,hx,rfl⟩,?_⟩;unfold Qv;by_cases hs:x.st=s
  ·have e:=hn (h1.symm.trans hs);subst e;have hc:x.ch.contains c'=true:=by simpa using h2
   rw[x9 hs,x9 hc];exact⟨h1,y7.2 rfl⟩
  ·rw[z9 hs];exact⟨h1,h2⟩
theorem zq (hk:k<d.length):S8 s c (d.take (k+1))=S8 s c (d.take k)++ [Qv s c d[k]]:=by
 unfold S8;rw[Cw hk,Yi];rfl
def cZ (w:World)(s c:Int)(d:List Dx)(tv ti:Value)(wr:World):Prop:= ∃k:Nat,k≤d.length∧ti= .int .i64 (k:Int)∧z6 [] w wr∧Hid (L4 wr tv (S8 s c (d.take k)))∧Hid (∀b∈m5 tv,w.heap.size≤b)
theorem lg (v:Value)(d:List Dx)(s c:Int)(w:World)(hv:C0 w v d)(hl:d.length≤100000)(WK: ∀x∈d,x.ch.length≤100000)(u_:Fits c):Calls Tryz.prog 171 #[v,.int .i64 s,.int .i64 c] w (Va (S8 s c d) w):=by
 obtain⟨A,cap,rfl,Ad,Cs⟩:=hv.form;have HT:=p7 (fun W t=>hv.q8 t);have HLC:=O WK;have qr3:=O u_;clear hv WK u_;go_enter Tryz.func171,Tryz.ntmps171;go_wp2_with fail;go_loopw [7,8] (fun tv ti wr=>cZ w s c d tv ti wr) (fun _ ti _=>d.length - (intOf ti).toNat)
 case atStart=>exact⟨0,by omega,rfl,z8 _ _,O (L4.nil w),O (Ic _)⟩
 case round=>
  obtain⟨k,hk,rfl,ht,HO,HN⟩:=hrel;obtain⟨Av,cv,rfl⟩:=HO.o.form;by_cases Z:k<d.length
  ·have j1:(k:Int)< (d.length:Int):=by omega
   have hD:=HT.o wr ht;obtain⟨b,off,cw,rfl,hb,I7,N0⟩:=hD.at_ Z;obtain⟨c0,c1,B8⟩:=N0 wr (z8 _ _);have HM1:=O (HLC.o _ (k8 Z));obtain⟨A2,X2,rfl⟩:=B8.form;have jS:=p7 (fun W' t=>B8.q8 t);have HRD:Hid (∀W',z6 [] wr W'→Reads W' 1 (.slice A2 d[k].ch.length X2) d[k].ch.length (d[k].ch.flatMap Ao)):=O (fun W' t=>(B8.q8 t).1);have PC:=O B8.2;have Rw:=O I7;have qR:=p7 (fun W' t=>(⟨(N0 W' t).1,(N0 W' t).2.1⟩:W'.cell? ⟨b,off+k*2,none⟩=some (.int .i64 d[k].st)∧W'.cell? ⟨b,off+k*2+1,none⟩=some (.slice A2 d[k].ch.length X2)));have HS:Hid (S8 s c (d.take (k+1))=S8 s c (d.take k)++ [if d[k].st=s then⟨d[k].st,if d[k].ch.contains c then [c]else []⟩else⟨d[k].st,d[k].ch⟩]):=O (zq (s:=s) (c:=c) Z);have rI:Hid ((S8 s c (d.take k)).length≤100000):=O (by unfold S8;rw[Cy,Y8];omega);clear hD N0 B8 I7;generalize d[k].st=st at*;generalize d[k].ch=ch at*;generalize S8 s c (d.take k)=ds at*;have B4:=O ht;have hQ:=z8 [] wr;clear ht;go_wp2_with fail;clear c0 c1;refine n6 (fun W'=>W'.cell? ⟨b,off+k*2,none⟩=some (.int .i64 st)∧W'.cell? ⟨b,off+k*2+1,none⟩=some (.slice A2 ch.length X2)) 13 (by kernel_rfl) ?_;refine tk 0 (qR.o _ hQ.drew) ?_;refine tk 1 (qR.o _ hQ.drew) ?_;refine tk 2 (qR.o _ hQ.drew) ?_;refine tk 3 (qR.o _ hQ.drew) ?_;refine tk 4 (qR.o _ hQ.drew) ?_;refine tk 5 (qR.o _ hQ.drew) ?_;refine tk 6 (qR.o _ hQ.drew) ?_;refine tk 7 (qR.o _ hQ.drew) ?_;refine tk 8 (qR.o _ hQ.drew) ?_;refine tk 9 (qR.o _ hQ.drew) ?_;refine K6.two (i:=10) (j:=12) (by kernel_rfl) rfl rfl (fun K hK=> ?_) (fun K hK=> ?_)
   ·refine l7 Jz (Own.nil _ _ _) (HRD.o _ hQ.drew) (Sl ch) (by have:=HM1.o;omega) (by have:=HM1.o;unfold maxLen;omega) ?_;intro v11 X6 r8 Q6 X9;simp only[O3,Qy]at r8;obtain⟨A3,c3,rfl⟩:=r8.form;have hni:Ed X6 (.slice A3 ch.length c3) ch:=⟨⟨r8.reads,PC.o⟩,fun b hb=>r8.kd b (Gp _ b hb)⟩;have Q6:z6 [] _ X6:=Q6;have Xu:=hQ.drew.Y Q6;refine YU hK (qR.o _ Xu) ?_;clear hK K;refine tk 11 (qR.o _ Xu) ?_;refine tn 12 (fun K hK=> ?_);go_simp;refine YU hK (qR.o _ (Xu.alloc _)) ?_;clear hK K;refine tl (fun K hK=> ?_);go_simp;refine hK.o _ _ ?_;clear hK K;(try simp only[nz]);have hB:=j4.new X6 75 #[.int .i64 st,.slice A3 ch.length c3];have hW:=Xu.alloc (.cells #[.int .i64 st,.slice A3 ch.length c3] 75);have hN:=hni.q8 ((z8 [] X6).alloc (.cells #[.int .i64 st,.slice A3 ch.length c3] 75));have hG:=Xu.size;clear hni r8 Q6 X9 hQ Xu;generalize X6.alloc _=w1 at*;obtain⟨gx,Mi⟩: ∃gx,gx=X6.heap.size:=⟨_,rfl⟩;rw[←Mi]at hB⊢;have hG2:wr.heap.size≤gx:=by omega
    have Vv:=O hG2;have HB:=O hB;have HW:=O hW;have uw:=O hN;have X3:b≠gx:=by have:=hb;omega
    clear Mi hB hW hN hG hG2;by_cases h1:st=s;rotate_left
    ·have e1:(st==s)=false:=by simpa using h1
     rw[z9 h1]at HS;clear h1;have x0:w1.cell? ⟨gx,0,none⟩=some (.int .i64 st):=(HB.o.cell 0).trans rfl;have x1:w1.cell? ⟨gx,1,none⟩=some (.slice A3 ch.length c3):=(HB.o.cell 1).trans rfl;obtain⟨K1,g1,g2,g3⟩:=HO.o.z7 HW.o (fun b hb=>by cases hb);have uu:=O g1;have wZ:=O g3;have xT:=O g2;have Q8:=O (B4.o.Y HW.o);clear g1 g3 HO;go_wp2_with (at_builtin;go_must (refine Ah Ch g2 [.int .i64 st,.slice A3 ch.length c3] 1 1 (by have:=rI.o;omega) (by have:=rI.o;unfold maxLen;omega) ?_);intro v11 X6 r8 Q6 X9;obtain⟨Mq,Mo,rfl⟩:=r8.form)
     have HE:Hid (cZ w s c d (.slice Mq (ds.length+1) Mo) (.int .i64 ((k+1:Nat):Int)) X6):=O ⟨k+1,Z,rfl,Q8.o.step Q6 (fun i hi=> .inr (HN.o i hi)),O (by
      rw[HS.o]
      exact L4.push uu.o xT.o.kd wZ.o Rw.o uw.o Q6 r8),O (fun b hb=>by
      rcases X9 b hb with e | e
      ·exact HN.o b e
      ·exact j9 Q8.o.size e)⟩
     clear r8 Q6 X9 g2;go_wp2_with fail;go_roundw
     case rel=>exact HE.o
     case measure=>simp[intOf];omega
    have e1:(st==s)=true:=by simpa using h1
    rw[x9 h1]at HS;clear h1;have y0:w1.cell? ⟨gx,0,none⟩=some (.int .i64 st):=(HB.o.cell 0).trans rfl;have y1:w1.cell? ⟨gx,1,none⟩=some (.slice A3 ch.length c3):=(HB.o.cell 1).trans rfl;have f1:=HB.o.frozen 1;have l1:=HB.o.lt;obtain⟨c0,c1⟩:=qR.o _ HW.o;have Vt:=O (HW.o.setCell (p:=⟨gx,1,none⟩) (.inr Vv.o) (.slice none 0 0));have O5:=O (HB.o.V8 1 (.slice none 0 0));have HHS:=O (Gx _ ch c _ (jS.o _ Vt.o));clear HW HB;go_wp2_with fail;refine HHS.o.mono ?_;rintro r w2 ⟨rfl,t2⟩;have hB:=O5.o.z7 t2 (by simp);have hW:=Vt.o.Y t2
    cases PR:ch.contains c with
    | false=>
     rw[PR]at HS;have qe6:Hid (Ed w2 (.slice none 0 0) []):=O ⟨⟨Reads.nil _ _,by simp⟩,fun b hb=>by cases hb⟩;have x0:w2.cell? ⟨gx,0,none⟩=some (.int .i64 st):=(hB.cell 0).trans rfl;have x1:w2.cell? ⟨gx,1,none⟩=some (.slice none 0 0):=(hB.cell 1).trans rfl;obtain⟨K1,g1,g2,g3⟩:=HO.o.z7 hW (fun b hb=>by cases hb);have uu:=O g1;have wZ:=O g3;have xT:=O g2;have Q8:=O (B4.o.Y hW);clear g1 g3 HO;go_wp2_with (at_builtin;go_must (refine Ah Ch g2 [.int .i64 st,.slice none 0 0] 1 1 (by have:=rI.o;omega) (by have:=rI.o;unfold maxLen;omega) ?_);intro v11 X6 r8 Q6 X9;obtain⟨Mq,Mo,rfl⟩:=r8.form)
     have HE:Hid (cZ w s c d (.slice Mq (ds.length+1) Mo) (.int .i64 ((k+1:Nat):Int)) X6):=O ⟨k+1,Z,rfl,Q8.o.step Q6 (fun i hi=> .inr (HN.o i hi)),O (by
      rw[HS.o]
      exact L4.push uu.o xT.o.kd wZ.o Rw.o qe6.o Q6 r8),O (fun b hb=>by
      rcases X9 b hb with e | e
      ·exact HN.o b e
      ·exact j9 Q8.o.size e)⟩
     clear r8 Q6 X9 g2;go_wp2_with fail;go_roundw
     case rel=>exact HE.o
     case measure=>simp[intOf];omega
    | true=>
     rw[PR]at HS;have y1:w2.cell? ⟨gx,1,none⟩=some (.slice none 0 0):=(hB.cell 1).trans rfl;have y0:w2.cell? ⟨gx,0,none⟩=some (.int .i64 st):=(hB.cell 0).trans rfl;have f9:=hB.frozen 1;have l9:=hB.lt;have hWZ:z6 [] wr ((w2.setCell ⟨gx,1,none⟩ (.slice (some ⟨w2.heap.size,0,none⟩) 1 1)).alloc (.cells #[.int .i64 c] 3)):=(hW.setCell (p:=⟨gx,1,none⟩) (.inr Vv.o) _).alloc _;have y_:(w2.setCell ⟨gx,1,none⟩ (.slice (some ⟨w2.heap.size,0,none⟩) 1 1)).heap.size=w2.heap.size:=by simp
     have gP:=J0 (w2.setCell ⟨gx,1,none⟩ (.slice (some ⟨w2.heap.size,0,none⟩) 1 1)) 3 [.int .i64 c] 1 1 rfl (by decide);have Pk:=(j4.new (w2.setCell ⟨gx,1,none⟩ (.slice (some ⟨w2.heap.size,0,none⟩) 1 1)) 3 #[.int .i64 c]).kd;rw[y_]at gP Pk;have ESZ:Hid (((w2.setCell ⟨gx,1,none⟩ (.slice (some ⟨w2.heap.size,0,none⟩) 1 1)).alloc (.cells #[.int .i64 c] 3)).heap.size=w2.heap.size+1):=O (by rw[World.size_alloc,y_])
     have qe7:Hid (Ed ((w2.setCell ⟨gx,1,none⟩ (.slice (some ⟨w2.heap.size,0,none⟩) 1 1)).alloc (.cells #[.int .i64 c] 3)) (.slice (some ⟨w2.heap.size,0,none⟩) 1 1) [c]):=O ⟨⟨gP,fun x hx=>by rw[y7]at hx;rw[hx];exact qr3.o⟩,fun b hb=>by
      have:b=w2.heap.size:=by simpa[rb]using hb
      rw[this];exact Pk⟩
     have HWZ:=O hWZ;clear hB hW hWZ y_ gP Pk;obtain⟨K1,g1,g2,g3⟩:=HO.o.z7 HWZ.o (fun b hb=>by cases hb);have uu:=O g1;have wZ:=O g3;have xT:=O g2;have Q8:=O (B4.o.Y HWZ.o);clear g1 g3 HO;go_wp2_with (at_builtin;go_must (refine Ah Ch g2 [.int .i64 st,.slice (some ⟨w2.heap.size,0,none⟩) 1 1] 1 1 (by have:=rI.o;omega) (by have:=rI.o;unfold maxLen;omega) ?_ (hx:=by rw[ESZ.o];rfl));intro v11 X6 r8 Q6 X9;obtain⟨Mq,Mo,rfl⟩:=r8.form)
     have HE:Hid (cZ w s c d (.slice Mq (ds.length+1) Mo) (.int .i64 ((k+1:Nat):Int)) X6):=O ⟨k+1,Z,rfl,Q8.o.step Q6 (fun i hi=> .inr (HN.o i hi)),O (by
      rw[HS.o]
      exact L4.push uu.o xT.o.kd wZ.o Rw.o qe7.o Q6 r8),O (fun b hb=>by
      rcases X9 b hb with e | e
      ·exact HN.o b e
      ·exact j9 Q8.o.size e)⟩
     clear r8 Q6 X9 g2;go_wp2_with fail;go_roundw
     case rel=>exact HE.o
     case measure=>simp[intOf];omega
   ·go_simp;refine YU hK (qR.o _ (hQ.alloc _).drew) ?_;clear hK K;refine tn 10 (fun K hK=> ?_);refine l7 Jz (Own.nil _ _ _) (HRD.o _ (hQ.alloc _).drew) (Sl ch) (by have:=HM1.o;omega) (by have:=HM1.o;unfold maxLen;omega) ?_;intro v11 X6 r8 Q6 X9;simp only[O3,Qy]at r8;obtain⟨A3,c3,rfl⟩:=r8.form;have hni:Ed X6 (.slice A3 ch.length c3) ch:=⟨⟨r8.reads,PC.o⟩,fun b hb=>r8.kd b (Gp _ b hb)⟩;have Q6:z6 [] _ X6:=Q6;have Xu:=(hQ.alloc (.cells #[.int .i64 0,.slice none 0 0] 75)).drew.Y Q6;have bB:j4 X6 wr.heap.size 75 #[.int .i64 0,.slice none 0 0]:=(j4.new wr 75 #[.int .i64 0,.slice none 0 0]).drew.z7 Q6 (by simp);refine YU hK (qR.o _ Xu) ?_;clear hK K;refine tk 11 (qR.o _ Xu) ?_;have wo:X6.cell? ⟨wr.heap.size,0,none⟩=some (.int .i64 0):=(bB.cell 0).trans rfl;have wi:X6.cell? ⟨wr.heap.size,1,none⟩=some (.slice none 0 0):=(bB.cell 1).trans rfl;have f90:=bB.frozen 0;have f91:=bB.frozen 1;refine tl (fun K hK=> ?_);go_simp;refine hK.o _ _ ?_;clear hK K;(try simp only[nz]);have hB:=(bB.V8 0 (.int .i64 st)).V8 1 (.slice A3 ch.length c3);have tB:=((z8 [wr.heap.size] X6).setCell (p:=⟨wr.heap.size,0,none⟩) (.inl (by simp)) (.int .i64 st)).setCell (p:=⟨wr.heap.size,1,none⟩) (.inl (by simp)) (.slice A3 ch.length c3);have hW:=(Xu.setCell (p:=⟨wr.heap.size,0,none⟩) (.inr (a9 _)) (.int .i64 st)).setCell (p:=⟨wr.heap.size,1,none⟩) (.inr (a9 _)) (.slice A3 ch.length c3);have hN:=hni.z7 tB (fun b hb=>by rw[y7]at hb;subst hb;exact⟨_,bB.kd,by decide⟩);have hG:=a9 wr.heap.size;clear hni r8 Q6 X9 hQ Xu tB bB wo wi f90 f91;generalize (X6.setCell _ _).setCell _ _=w1 at*;obtain⟨gx,Mi⟩: ∃gx,gx=wr.heap.size:=⟨_,rfl⟩;rw[←Mi]at hB⊢;have hG2:wr.heap.size≤gx:=by omega
    have Vv:=O hG2;have HB:=O hB;have HW:=O hW;have uw:=O hN;have X3:b≠gx:=by have:=hb;omega
    clear Mi hB hW hN hG hG2;by_cases h1:st=s;rotate_left
    ·have e1:(st==s)=false:=by simpa using h1
     rw[z9 h1]at HS;clear h1;have x0:w1.cell? ⟨gx,0,none⟩=some (.int .i64 st):=(HB.o.cell 0).trans rfl;have x1:w1.cell? ⟨gx,1,none⟩=some (.slice A3 ch.length c3):=(HB.o.cell 1).trans rfl;obtain⟨K1,g1,g2,g3⟩:=HO.o.z7 HW.o (fun b hb=>by cases hb);have uu:=O g1;have wZ:=O g3;have xT:=O g2;have Q8:=O (B4.o.Y HW.o);clear g1 g3 HO;go_wp2_with (at_builtin;go_must (refine Ah Ch g2 [.int .i64 st,.slice A3 ch.length c3] 1 1 (by have:=rI.o;omega) (by have:=rI.o;unfold maxLen;omega) ?_);intro v11 X6 r8 Q6 X9;obtain⟨Mq,Mo,rfl⟩:=r8.form)
     have HE:Hid (cZ w s c d (.slice Mq (ds.length+1) Mo) (.int .i64 ((k+1:Nat):Int)) X6):=O ⟨k+1,Z,rfl,Q8.o.step Q6 (fun i hi=> .inr (HN.o i hi)),O (by
      rw[HS.o]
      exact L4.push uu.o xT.o.kd wZ.o Rw.o uw.o Q6 r8),O (fun b hb=>by
      rcases X9 b hb with e | e
      ·exact HN.o b e
      ·exact j9 Q8.o.size e)⟩
     clear r8 Q6 X9 g2;go_wp2_with fail;go_roundw
     case rel=>exact HE.o
     case measure=>simp[intOf];omega
    have e1:(st==s)=true:=by simpa using h1
    rw[x9 h1]at HS;clear h1;have y0:w1.cell? ⟨gx,0,none⟩=some (.int .i64 st):=(HB.o.cell 0).trans rfl;have y1:w1.cell? ⟨gx,1,none⟩=some (.slice A3 ch.length c3):=(HB.o.cell 1).trans rfl;have f1:=HB.o.frozen 1;have l1:=HB.o.lt;obtain⟨c0,c1⟩:=qR.o _ HW.o;have Vt:=O (HW.o.setCell (p:=⟨gx,1,none⟩) (.inr Vv.o) (.slice none 0 0));have O5:=O (HB.o.V8 1 (.slice none 0 0));have HHS:=O (Gx _ ch c _ (jS.o _ Vt.o));clear HW HB;go_wp2_with fail;refine HHS.o.mono ?_;rintro r w2 ⟨rfl,t2⟩;have hB:=O5.o.z7 t2 (by simp);have hW:=Vt.o.Y t2
    cases PR:ch.contains c with
    | false=>
     rw[PR]at HS;have qe6:Hid (Ed w2 (.slice none 0 0) []):=O ⟨⟨Reads.nil _ _,by simp⟩,fun b hb=>by cases hb⟩;have x0:w2.cell? ⟨gx,0,none⟩=some (.int .i64 st):=(hB.cell 0).trans rfl;have x1:w2.cell? ⟨gx,1,none⟩=some (.slice none 0 0):=(hB.cell 1).trans rfl;obtain⟨K1,g1,g2,g3⟩:=HO.o.z7 hW (fun b hb=>by cases hb);have uu:=O g1;have wZ:=O g3;have xT:=O g2;have Q8:=O (B4.o.Y hW);clear g1 g3 HO;go_wp2_with (at_builtin;go_must (refine Ah Ch g2 [.int .i64 st,.slice none 0 0] 1 1 (by have:=rI.o;omega) (by have:=rI.o;unfold maxLen;omega) ?_);intro v11 X6 r8 Q6 X9;obtain⟨Mq,Mo,rfl⟩:=r8.form)
     have HE:Hid (cZ w s c d (.slice Mq (ds.length+1) Mo) (.int .i64 ((k+1:Nat):Int)) X6):=O ⟨k+1,Z,rfl,Q8.o.step Q6 (fun i hi=> .inr (HN.o i hi)),O (by
      rw[HS.o]
      exact L4.push uu.o xT.o.kd wZ.o Rw.o qe6.o Q6 r8),O (fun b hb=>by
      rcases X9 b hb with e | e
      ·exact HN.o b e
      ·exact j9 Q8.o.size e)⟩
     clear r8 Q6 X9 g2;go_wp2_with fail;go_roundw
     case rel=>exact HE.o
     case measure=>simp[intOf];omega
    | true=>
     rw[PR]at HS;have y1:w2.cell? ⟨gx,1,none⟩=some (.slice none 0 0):=(hB.cell 1).trans rfl;have y0:w2.cell? ⟨gx,0,none⟩=some (.int .i64 st):=(hB.cell 0).trans rfl;have f9:=hB.frozen 1;have l9:=hB.lt;have hWZ:z6 [] wr ((w2.setCell ⟨gx,1,none⟩ (.slice (some ⟨w2.heap.size,0,none⟩) 1 1)).alloc (.cells #[.int .i64 c] 3)):=(hW.setCell (p:=⟨gx,1,none⟩) (.inr Vv.o) _).alloc _;have y_:(w2.setCell ⟨gx,1,none⟩ (.slice (some ⟨w2.heap.size,0,none⟩) 1 1)).heap.size=w2.heap.size:=by simp
     have gP:=J0 (w2.setCell ⟨gx,1,none⟩ (.slice (some ⟨w2.heap.size,0,none⟩) 1 1)) 3 [.int .i64 c] 1 1 rfl (by decide);have Pk:=(j4.new (w2.setCell ⟨gx,1,none⟩ (.slice (some ⟨w2.heap.size,0,none⟩) 1 1)) 3 #[.int .i64 c]).kd;rw[y_]at gP Pk;have ESZ:Hid (((w2.setCell ⟨gx,1,none⟩ (.slice (some ⟨w2.heap.size,0,none⟩) 1 1)).alloc (.cells #[.int .i64 c] 3)).heap.size=w2.heap.size+1):=O (by rw[World.size_alloc,y_])
     have qe7:Hid (Ed ((w2.setCell ⟨gx,1,none⟩ (.slice (some ⟨w2.heap.size,0,none⟩) 1 1)).alloc (.cells #[.int .i64 c] 3)) (.slice (some ⟨w2.heap.size,0,none⟩) 1 1) [c]):=O ⟨⟨gP,fun x hx=>by rw[y7]at hx;rw[hx];exact qr3.o⟩,fun b hb=>by
      have:b=w2.heap.size:=by simpa[rb]using hb
      rw[this];exact Pk⟩
     have HWZ:=O hWZ;clear hB hW hWZ y_ gP Pk;obtain⟨K1,g1,g2,g3⟩:=HO.o.z7 HWZ.o (fun b hb=>by cases hb);have uu:=O g1;have wZ:=O g3;have xT:=O g2;have Q8:=O (B4.o.Y HWZ.o);clear g1 g3 HO;go_wp2_with (at_builtin;go_must (refine Ah Ch g2 [.int .i64 st,.slice (some ⟨w2.heap.size,0,none⟩) 1 1] 1 1 (by have:=rI.o;omega) (by have:=rI.o;unfold maxLen;omega) ?_ (hx:=by rw[ESZ.o];rfl));intro v11 X6 r8 Q6 X9;obtain⟨Mq,Mo,rfl⟩:=r8.form)
     have HE:Hid (cZ w s c d (.slice Mq (ds.length+1) Mo) (.int .i64 ((k+1:Nat):Int)) X6):=O ⟨k+1,Z,rfl,Q8.o.step Q6 (fun i hi=> .inr (HN.o i hi)),O (by
      rw[HS.o]
      exact L4.push uu.o xT.o.kd wZ.o Rw.o qe7.o Q6 r8),O (fun b hb=>by
      rcases X9 b hb with e | e
      ·exact HN.o b e
      ·exact j9 Q8.o.size e)⟩
     clear r8 Q6 X9 g2;go_wp2_with fail;go_roundw
     case rel=>exact HE.o
     case measure=>simp[intOf];omega
  ·have j1: ¬(k:Int)< (d.length:Int):=by omega
   have I1:d.take k=d:=N2 (by omega);have hle:(S8 s c (d.take k)).length=(S8 s c d).length:=by rw[I1]
   have HR:=HO.o.Ms;rw[hle,I1]at HR;have HR:=O HR;rw[hle];clear I1 HO HN hle;go_wp2_with fail;go_ret;exact⟨Av,cv,rfl,HR.o,ht⟩
end Go.Proofs.YtlhlmcohdkkjpaaGreatDoor
