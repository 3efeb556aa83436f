/- Package nogood: assume: a problem with choices and with the nogoods. -/
import Derived.Test.YtlhlmcohdkkjpaaGreatDoorZS
set_option linter.all false
set_option maxHeartbeats 16000000
set_option maxRecDepth 100000
namespace Go.Proofs.YtlhlmcohdkkjpaaGreatDoor
open Go.RowKit
def It (p:Px)(ls:List (List Cx))(l:List Cx)(w:World)(r:Ending)(w':World):Prop:= ∃v b,r= .returned (.tuple #[v,.bool b])∧(b=true↔Hs p ls l)∧z6 [] w w'
variable{b cf:Bool}{M0:Left}{ls:List (List Cx)}{l:List Cx}{xs:List Int}{ms aV:List Nat}{sp tb g Zw k nb:Nat}{p:Px}{vs vp vc vi vf lv gv:Value}{w w' w0 w1:World}
theorem It.yes (v:Value)(h:Hs p ls l)(t:z6 [] w w'):It p ls l w (.returned (.tuple #[v,.bool true])) w':=⟨v,true,rfl,⟨fun _=>h,fun _=>rfl⟩,t⟩
theorem It.no (v:Value)(h: ¬Hs p ls l)(t:z6 [] w w'):It p ls l w (.returned (.tuple #[v,.bool false])) w':=⟨v,false,rfl,⟨fun e=>(by cases e),fun e=>absurd e h⟩,t⟩
structure NaI (w0 w1 wr:World)(sp tb g cap:Nat)(p:Px)(ls:List (List Cx))(M0:Left)(ms:List Nat)(cf:Bool):Prop where
 st:Vk w0 wr sp tb g cap p ms cf
 inv:K9 p ls M0 ms
 sb:OT p ms cf
 tc:z6 [sp,g] w1 wr
def nX (p:Px)(ms:List Nat)(x:List Cx):Prop:=x≠ []∧ ∀s c,Z5 p ms s c→ ¬((∃y∈x,y.a=s∧y.b=c)∧ ∀y∈x,y.a≠s→F5 (Z5 p ms) y.a y.b)
def NaN (w0 w1:World)(sp tb g cap:Nat)(p:Px)(ls:List (List Cx))(M0:Left)(tb9:Value)(wr:World)(n:Nat):Prop:= ∃(b:Bool) (ms:List Nat) (cf:Bool),tb9= .bool b∧NaI w0 w1 wr sp tb g cap p ls M0 ms cf∧(b=false→cf=false∧ ∀x∈ls,nX p ms x)∧n=2*ms.sum+(if b then 1 else 0)
structure QG (w0 w1 wr:World)(sp tb g cap Zw:Nat)(p:Px)(ls:List (List Cx))(M0:Left)(ms aV:List Nat)(k:Nat)(b:Bool):Prop where
 i:NaI w0 w1 wr sp tb g cap p ls M0 aV false
 on:j4 wr Zw 154 (U0 (fun s=>wh p aV s))
 yes:b=true→aV.sum<ms.sum
 no:b=false→aV=ms∧ ∀(j:Nat) x,j<k→ls[j]? =some x→nX p aV x
theorem QG.q8 {wr w2:World}{cap:Nat}(h:QG w0 w1 wr sp tb g cap Zw p ls M0 ms aV k b)(t:z6 [] wr w2):QG w0 w1 w2 sp tb g cap Zw p ls M0 ms aV k b:=
 ⟨⟨h.i.st.q8 t,h.i.inv,h.i.sb,h.i.tc.Y t⟩,h.on.z7 t (by simp),h.yes,h.no⟩
theorem Vk.qg0 {cap:Nat}(h:Vk w0 w sp tb g cap p ms cf)(t:z6 [Zw] w w')(h1:sp≠Zw)(h2:g≠Zw)(h3:w0.heap.size≤Zw):Vk w0 w' sp tb g cap p ms cf:=
 ⟨h.t0.step t (fun m hm=> .inr (by rw[y7]at hm;omega)),h.Vq,h.hg,h.X3,W6 h.Bo t.size,h.len,h.st.z7 t (by simpa using h1),h.lb.z7 t (fun b hb=>by simp only[m5,m6,V6,Q1]at hb⊢;omega)⟩
theorem QG.skip {wr:World}{cap:Nat}(h:QG w0 w1 wr sp tb g cap Zw p ls M0 ms aV k b){x:List Cx}(hx:ls[k]? =some x)(hq:nX p aV x):QG w0 w1 wr sp tb g cap Zw p ls M0 ms aV (k+1) b:=
 ⟨h.i,h.on,h.yes,fun e=>⟨(h.no e).1,fun j y hj hy=>by
  rcases Is.1 hj with h3 | h3
  ·exact(h.no e).2 j y h3 hy
  ·subst h3;rw[hx]at hy;injection hy with hy;rw[←hy]
   exact hq⟩⟩
theorem AQ {g:List Cx}{c:Cx}(h:Lr p ms g c false):g≠ []:=by
 rintro rfl;rcases h with⟨h1,-⟩ | ⟨-,h1,-⟩ | ⟨h1,-⟩
 ·simp[M3]at h1
 ·cases h1
 ·simp[M3]at h1
def qk4 (w0 w1:World)(sp tb g cap Zw:Nat)(p:Px)(ls:List (List Cx))(M0:Left)(ms:List Nat)(t9 ti:Value)(wr:World):Prop:= ∃(k:Nat) (b:Bool) (aV:List Nat),k≤ls.length∧ti= .int .i64 k∧t9= .bool b∧QG w0 w1 wr sp tb g cap Zw p ls M0 ms aV k b
def qk5 (w0 w1:World)(sp tb g cap:Nat)(p:Px)(ls:List (List Cx))(l:List Cx)(ti:Value)(wr:World):Prop:= ∃k:Nat,k≤l.length∧ti= .int .i64 k∧ ∃ms cf,NaI w0 w1 wr sp tb g cap p ls (J1 (Z0 p.D (l.take k))) ms cf
theorem vX {sb cap:Nat}(hu:xL w0 tb p vs vp vc vi vf)(h:Vk w0 w sp tb g cap p ms cf)(M8:K9 p ls (J1 p.D) ms)(Z7:OT p ms cf)(Qm:0<ms.length)(hsb:sb<w.heap.size)(FJ:w.cell? ⟨sb,512,none⟩=some (.pointer (some ⟨sp,0,none⟩)))(RL:w.cell? ⟨sb,513,none⟩=some lv)(l_:C8 2 Cx.cells Cx.Fit w lv ls)(hlk: ∀x∈ls,Ml p x∧x.length≤100000)(hln:ls.length≤100000)(l:List Cx)(hl:Q0 w gv l)(m_:Ml p l)(T3:l.length≤100000):Calls Tryz.prog 170 #[.pointer (some ⟨sb,0,none⟩),gv] w (It p ls l w):=by
 have HCP:=O (pi h (fun i=>M8.Fv.bits i) (by rw[h.len];exact hu.we.dn) Qm);obtain⟨A,cl,rfl⟩:=hl.form;obtain⟨Al,cll,rfl⟩:=l_.form;have HL:=p7 (fun W t=>hl.q8 t);have Rm:=p7 (fun W t=>l_.q8 t);have uz:=p7 (fun W t=>(t.cell (p:=⟨sb,513,none⟩) hsb (by simp)).trans RL);have HLO:=O (fun(y:Cx) (hy:y∈l)=>m_.has y hy);have Qs:=O M8;have Q9:=O Z7;clear h M8 Z7 RL l_ hl m_ Qm;go_enter Tryz.func170,Tryz.ntmps170;go_wp2_with fail;refine HCP.o.mono ?_;rintro r w1 ⟨qI,g',Ak,rfl,bA,WS,hf2,t1⟩;have J6:=O t1;have HF:=O (And.intro WS hf2);have Z_:Hid (NaI w0 w1 w1 qI tb g' Ak p ls (J1 p.D) ms cf):=O ⟨bA,Qs.o,Q9.o,z8 _ _⟩
 have gS:=O (fun(W:World) (t:z6 [qI,g'] w1 W)=>t1.step t (fun m hm=> .inr (by
  simp only[m6,V6,Q1]at hm;rcases hm with rfl | rfl
  ·exact WS
  ·exact hf2)))
 have zg3:Hid (w0.heap.size≤w1.heap.size):=O bA.t0.size;have zg9:Hid (qI<w1.heap.size∧g'<w1.heap.size):=O ⟨bA.st.lt,bA.Bo⟩;clear t1 WS hf2 bA FJ;go_wp2_with fail;go_loopw [22] (fun ti wr=>qk5 w0 w1 qI tb g' Ak p ls l ti wr) (fun ti _=>l.length - (intOf ti).toNat)
 case atStart=>exact⟨0,by omega,rfl,ms,cf,Z_.o⟩
 case round=>
  clear Z_;obtain⟨k,hk,rfl,ms,cf,hI⟩:=hrel;have TW:=O (gS.o wr hI.tc);have HI:=O hI;clear hI;by_cases Z:k<l.length
  ·have j1:(k:Int)< (l.length:Int):=by omega
   have aZ:=HL.o wr TW.o;obtain⟨b,off,rfl,hb⟩:=aZ.addr Z;obtain⟨ca,cb⟩:=Q0.at_ aZ Z;obtain⟨o1,o2,o3⟩:=HLO.o _ (k8 Z);have HKS:=O (Vg (d:=p.D) Z);obtain⟨c,hc⟩:=K5 (show 0≤l[k].b by omega);rw[hc]at cb o2 o3 HKS;generalize l[k].a=s at*;have Jc:Hid (NaI w0 w1 (wr.alloc (.cells #[.int .i64 s,.int .i64 c] 53)) qI tb g' Ak p ls (J1 (Z0 p.D (l.take k))) ms cf):=O ⟨HI.o.st.q8 ((z8 [] wr).alloc _),HI.o.inv,HI.o.sb,HI.o.tc.alloc _⟩;have PC:=O (Mf Jc.o.st);have N6:=O (j4.new wr 53 #[.int .i64 s,.int .i64 c]);have q0:=(N6.o.cell 0).trans rfl;have q1:=(N6.o.cell 1).trans rfl;clear aZ hb hc
   cases cf with
   | true=>
    have HGO:=O (zg hu.hp HI.o.inv HI.o.sb);go_wp2_with fail;refine PC.o.mono ?_;rintro r w2 ⟨rfl,rfl⟩;go_wp2_with fail;go_ret2;exact It.yes _ HGO.o (TW.o.alloc _)
   | false=>
    have HAS:=O (wj hu Jc.o.st Jc.o.inv Jc.o.sb s c o1 (by omega) (by omega));go_wp2_with fail;refine PC.o.mono ?_;rintro r w2 ⟨rfl,rfl⟩;go_wp2_with fail;refine HAS.o.mono ?_;rintro r w3 ⟨rfl,Fj,jP,g1,g2,g3,g4⟩;go_wp2_with fail;exact⟨⟨k+1,Z,by go_num,Fj,jP,⟨g1,by rw[HKS.o];exact g2,g3,Jc.o.tc.trans g4⟩⟩,by simp[intOf];omega⟩
  ·have j1: ¬(k:Int)< (l.length:Int):=by omega
   have Qi:l.take k=l:=N2 (by omega);rw[Qi]at HI;have HI2:=HI;go_wp2_with fail;clear HI TW;have HGL:Hid (∀ms,K9 p ls (J1 (Z0 p.D l)) ms→yO p ms→Hs p ls l):=O (fun ms h1 h2=>AJ hu.hp h1 h2);have HQN:Hid (∀ms,K9 p ls (J1 (Z0 p.D l)) ms→Rest p ms→(∀x∈ls,nX p ms x)→ ¬Hs p ls l):=O (fun ms h1 h2 h3=>lc hu.hp h1 h2 (fun x hx=>(h3 x hx).2) (fun x hx=>(h3 x hx).1));have HEM:Hid ([]∈ls→Hs p ls l):=O (fun h1=>BF h1);generalize J1 (Z0 p.D l)=M0 at*;generalize wr=wa at*;go_loopw [9] (fun t9 wr=> ∃n,NaN w0 w1 qI tb g' Ak p ls M0 t9 wr n) (fun t9 wr=>Nz (NaN w0 w1 qI tb g' Ak p ls M0 t9 wr))
   case atStart=>exact⟨_,true,ms,cf,rfl,HI2.o,fun e=>(by cases e),rfl⟩
   case round=>
    obtain⟨hP,-⟩:=Oy hrel;generalize hNe:Nz (NaN w0 w1 qI tb g' Ak p ls M0 u9 wr)=N at*;have qQ:=O hNe;clear hNe hrel;obtain⟨b,ms,cf,rfl,hI,hq,hN⟩:=hP;have TW:=O (gS.o wr hI.tc);have HI:=O hI;have HN:=O hN
    cases b with
    | false=>
     obtain⟨rfl,Ba⟩:=hq rfl;have HQ2:=O Ba;clear hI hq hN Ba;go_wp2_with fail;go_ret2;exact It.no _ (HQN.o _ HI.o.inv HI.o.sb HQ2.o) TW.o
    | true=>
     have PC:=O (Mf HI.o.st);clear hI hq hN
     cases cf with
     | true=>
      go_wp2_with fail;refine PC.o.mono ?_;rintro r w2 ⟨rfl,rfl⟩;go_wp2_with fail;go_ret2;exact It.yes _ (HGL.o _ HI.o.inv HI.o.sb) TW.o
     | false=>
      have HFX:=O (Yr hu HI.o.st HI.o.inv.Fv);have hz:=Pn;go_wp2_with fail;refine PC.o.mono ?_;rintro r w2 ⟨rfl,rfl⟩;go_wp2_with fail;refine HFX.o.mono ?_;rintro r w3 ⟨rfl,t3⟩;go_upto_region 15 with(first | (refine Sa (f:=fun _=>0) (j4.new _ _ _) ?_;intro w5 b5 t5))
      obtain⟨Zw,qc5⟩: ∃Zw,Zw=w3.heap.size:=⟨_,rfl⟩;rw[←qc5]at b5 t5⊢;have HGO:Hid (w1.heap.size≤Zw):=O (by rw[qc5];exact j9 HI.o.tc.size t3.size);have T35:z6 [] w3 w5:=((z8 [] w3).alloc (.cells (U0 (fun _=>0)) 154)).step t5 (fun m hm=> .inr (by rw[y7]at hm;omega));have TWR:=O (t3.Y T35);have HJ0:Hid (QG w0 w1 w5 qI tb g' Ak Zw p ls M0 ms ms 0 false):=O ⟨⟨HI.o.st.q8 TWR.o,HI.o.inv,HI.o.sb,HI.o.tc.Y TWR.o⟩,b5,fun e=>(by cases e),fun _=>⟨rfl,fun j x h=>by omega⟩⟩;have c5:=uz.o w5 (TW.o.Y TWR.o);clear t3 b5 t5 T35 qc5 hz TW;go_wp2_with fail;clear c5;go_loopw [9,42] (fun t9 ti wr=>qk4 w0 w1 qI tb g' Ak Zw p ls M0 ms t9 ti wr) (fun _ ti _=>ls.length - (intOf ti).toNat)
      case atStart=>exact⟨0,false,ms,by omega,rfl,rfl,HJ0.o⟩
      case round=>
       clear HJ0;obtain⟨k,b,aV,hk,rfl,rfl,hJ⟩:=hrel;have TW:=O (gS.o wr hJ.i.tc);have HJ:=O hJ;clear hJ;by_cases Dw:k<ls.length
       ·have IG:(k:Int)< (ls.length:Int):=by omega
        have Na:=Rm.o wr TW.o;obtain⟨b2,Hn,u,rfl,U3,cu,Yy⟩:=Na.at_ Dw;obtain⟨hnk,Ks⟩:=hlk _ (k8 Dw);obtain⟨Au,X2,rfl⟩:=Yy.form;have HXM:Hid (ls[k]∈ls):=O (k8 Dw);have jQ:Hid (ls[k]? =some ls[k]):=O (j6 Dw);have HFO:=O (zt hu HJ.o.i.st HJ.o.i.inv.Fv ls[k] hnk Yy Ks HJ.o.on);have HNK:=O hnk;generalize ls[k]=x at*;clear Na U3 Yy hnk;go_wp2_with fail;refine HFO.o.mono ?_;rintro r w2 ⟨c,ok,rfl,hfp,t2⟩;have XQ:=O hfp;have XO:=O (HJ.o.q8 (t2.alloc (.cells #[.int .i64 c.a,.int .i64 c.b] 53)));have TW2:=O (TW.o.Y (t2.alloc (.cells #[.int .i64 c.a,.int .i64 c.b] 53)));have HBC:=O (j4.new w2 53 #[.int .i64 c.a,.int .i64 c.b]);have q0:=(HBC.o.cell 0).trans rfl;have q1:=(HBC.o.cell 1).trans rfl;clear hfp t2
        dsimp only[cz]
        cases ok with
        | false=>
         have HQT:Hid (nX p aV x):=O ⟨AQ XQ.o,pY hu.hp HJ.o.i.inv.Fv HJ.o.i.sb.1 HNK.o XQ.o⟩;go_wp2_with fail;exact⟨⟨k+1,b,aV,Dw,by go_num,rfl,XO.o.skip jQ.o HQT.o⟩,by simp[intOf];omega⟩
        | true=>
         by_cases CD:x.length=0
         ·have hxb:((x.length:Int)==0)=true:=by simpa using CD
          have me:=O (HEM.o (by have:=HXM.o;rwa [cR.1 CD]at this));go_wp2_with fail;go_ret2;exact It.yes _ me.o TW2.o
         ·have hxb:((x.length:Int)==0)=false:=by simpa using CD
          have hxn:x≠ []:=fun e=>CD (by rw[e];rfl);obtain⟨hcx,hnr⟩:=zh hu.hp HJ.o.i.inv.Fv HXM.o HNK.o hxn XQ.o;have Ep:=zf hu.hp HJ.o.i.inv.Fv HNK.o hcx XQ.o;obtain⟨Za,qZ,hd3⟩:=HNK.o.has c hcx;obtain⟨ca,cb⟩:=c;simp only at hnr Ep Za qZ hd3 q0 q1⊢;obtain⟨cn,rfl⟩:=K5 (show 0≤cb by omega);rw[X4]at Ep;obtain⟨i1,i2⟩:=X0 Za;have HFB:=O (wG (gs:=ls) (M0:=Z5 p (aV.set (G8 p ca) (J7 (wd aV (G8 p ca)) (2^cn)))) hu XO.o.i.st XO.o.i.inv.Fv XO.o.i.sb ca cn Za (by omega) (by omega) (K9.za0 (XO.o.i.inv.Fv.set i1 ((XO.o.i.inv.Fv.bits _).J7 _))));have HNR:=O hnr;have HBT:=O Ep;have xR:=O (And.intro i1 i2);clear hnr Ep Za qZ hd3 i1 i2 hcx;go_wp2_with fail;refine HFB.o.mono ?_;rintro r w4 ⟨rfl,ms3,cf3,g1,g2,g3,g4⟩;have HI3:=O (K9.trans (HJ.o.i.inv.qi7 hu.hp xR.o.1 (by rw[xR.o.2];exact HNR.o)) g2);have HSM:=O (zm hu.hp HJ.o.i.inv.Fv xR.o.1 HBT.o g2);have T_:Hid (NaI w0 w1 w4 qI tb g' Ak p ls M0 ms3 cf3):=O ⟨g1,HI3.o,g3,XO.o.i.tc.trans g4⟩;have XP:Hid (qI≠Zw∧g'≠Zw):=O (by have:=HGO.o;have:=zg9.o;omega);have HO4:=O (XO.o.on.z7 g4 (by have:=XP.o;simp;omega));have zi5:=O (Mf g1);have zh9:=O (fun(e:cf3=false)=>Yr hu (by rw[e]at g1;exact g1) HI3.o.Fv);clear g1 g2 g3 g4 q0 q1;go_wp2_with fail;refine zi5.o.mono ?_;rintro r w5 ⟨rfl,rfl⟩
          cases cf3 with
          | true=>
           go_wp2_with fail;go_ret2;exact It.yes _ (HGL.o _ T_.o.inv T_.o.sb) (gS.o _ T_.o.tc)
          | false=>
           go_wp2_with fail;refine(zh9.o (by trivial)).mono ?_;rintro r w6 ⟨rfl,t6⟩;have ho6:=HO4.o.z7 t6 (by simp);have Vl:=O t6;clear t6;go_wp2_with (first | (refine Sa ho6 ?_;intro w7 b7 t7))
           have HJ7:QG w0 w1 w7 qI tb g' Ak Zw p ls M0 ms ms3 (k+1) true:=⟨⟨(T_.o.st.q8 Vl.o).qg0 t7 XP.o.1 XP.o.2 (j9 zg3.o HGO.o),T_.o.inv,T_.o.sb,(T_.o.tc.Y Vl.o).step t7 (fun m hm=> .inr (by rw[y7]at hm;have:=HGO.o;omega))⟩,b7,fun _=>by
            have h1:=HSM.o
            cases b with
            | true=>have:=HJ.o.yes rfl;omega
            | false=>rw[(HJ.o.no rfl).1]at h1;exact h1,fun e=>by cases e⟩
           exact⟨⟨k+1,true,ms3,Dw,by go_num,rfl,HJ7⟩,by simp[intOf];omega⟩
       ·have IG: ¬(k:Int)< (ls.length:Int):=by omega
        have E4:Hid (NaN w0 w1 qI tb g' Ak p ls M0 (.bool b) wr (2*aV.sum+(if b then 1 else 0))):=O ⟨b,aV,false,rfl,HJ.o.i,fun e=>⟨rfl,fun x hx=>by
         obtain⟨j,hj,rfl⟩:=Bg hx
         exact(HJ.o.no e).2 j _ (by omega) (j6 hj)⟩,rfl⟩
        have Xv:Hid (2*aV.sum+(if b then 1 else 0)<N):=O (by
         rw[HN.o]
         cases b with
         | false=>rw[(HJ.o.no rfl).1];simp
         | true=>have:=HJ.o.yes rfl;simp;omega)
        go_wp2_with fail;exact⟨⟨_,E4.o⟩,Wo (Qa E4.o) (by rw[qQ.o];exact Xv.o)⟩
structure SoU (w0 w:World)(nb sp tb g cap:Nat)(p:Px)(ms:List Nat)(cf:Bool)(ls:List (List Cx))(lv:Value):Prop where
 st:Vk w0 w sp tb g cap p ms cf
 inv:K9 p [] (J1 p.D) ms
 sb:OT p ms cf
 pos:0<ms.length
 lt:nb<w.heap.size
 sd:nh w nb p
 rU:w.cell? ⟨nb,512,none⟩=some (.pointer (some ⟨sp,0,none⟩))
 rT:w.cell? ⟨nb,513,none⟩=some lv
 rows:C8 2 Cx.cells Cx.Fit w lv ls
 ok: ∀x∈ls,Ml p x∧x.length≤100000
 len:ls.length≤100000
theorem SoU.q8 {cap:Nat}(h:SoU w0 w nb sp tb g cap p ms cf ls lv)(t:z6 [] w w'):SoU w0 w' nb sp tb g cap p ms cf ls lv:=
 ⟨h.st.q8 t,h.inv,h.sb,h.pos,W6 h.lt t.size,h.sd.q8 t,(t.cell (p:=⟨nb,512,none⟩) h.lt (by simp)).trans h.rU,(t.cell (p:=⟨nb,513,none⟩) h.lt (by simp)).trans h.rT,h.rows.q8 t,h.ok,h.len⟩
theorem Vf {cap:Nat}(h:SoU w0 w nb sp tb g cap p ms cf ls lv):Calls Tryz.prog 168 #[.pointer (some ⟨nb,0,none⟩)] w fun r w'=>r= .returned (.bool false)∧w=w':=by
 have c0:=h.rU;clear h;go_enter Tryz.func168,Tryz.ntmps168;go_wp2_with fail;go_ret;exact⟨rfl,rfl⟩
def Lg (p:Px)(ls:List (List Cx))(l:List Cx)(w:World)(r:Ending)(w':World):Prop:= ∃b,r= .returned (.tuple #[.bool b,.int .i64 (if Eo p l then 0 else 2)])∧(Eo p l=true→(b=true↔Hs p ls l))∧(Eo p l=false→b=false)∧z6 [] w w'
theorem Lg.bad (h:Eo p l=false)(t:z6 [] w w'):Lg p ls l w (.returned (.tuple #[.bool false,.int .i64 2])) w':=⟨false,by rw[h];rfl,fun e=>(by rw[h]at e;cases e),fun _=>rfl,t⟩
theorem Lg.good (h:Eo p l=true)(hb:b=true↔Hs p ls l)(t:z6 [] w w'):Lg p ls l w (.returned (.tuple #[.bool b,.int .i64 0])) w':=⟨b,by rw[h];rfl,fun _=>hb,fun e=>(by rw[h]at e;cases e),t⟩
theorem pR {cap:Nat}(hu:xL w0 tb p vs vp vc vi vf)(hn:Dz p.D)(h:SoU w0 w nb sp tb g cap p ms cf ls lv)(l:List Cx)(hl:Q0 w gv l)(T3:l.length≤100000):Calls Tryz.prog 134 #[.pointer (some ⟨nb,0,none⟩),gv] w (Lg p ls l w):=by
 have HM:=O (Vf h);have HV:=O (Si hu.hp hn h.sd l hl T3);have HA:=O (fun(e:Eo p l=true) (W:World) (t:z6 [] w W)=>vX (ls:=ls) hu (h.q8 t).st h.inv.more h.sb h.pos (h.q8 t).lt (h.q8 t).rU (h.q8 t).rT (h.q8 t).rows h.ok h.len l (hl.q8 t) (gj hn e) T3);clear h hl;go_enter Tryz.func134,Tryz.ntmps134;go_wp2_with fail;refine HM.o.mono ?_;rintro r w1 ⟨rfl,rfl⟩;go_wp2_with fail;refine HV.o.mono ?_;rintro r w1 ⟨rfl,t1⟩;have J6:=O t1;clear t1
 cases mL:Eo p l with
 | false=>
  have XM:=O mL;clear mL;go_wp2_with fail;go_ret2;exact Lg.bad XM.o J6.o
 | true=>
  have Su:=O (HA.o mL);have XM:=O mL;clear mL;go_wp2_with fail;refine(Su.o _ J6.o).mono ?_;rintro r w2 ⟨v,b,rfl,hb,t2⟩;have HB:=O hb;clear hb;go_wp2_with fail;go_ret2;exact Lg.good XM.o HB.o (J6.o.Y t2)
theorem qj3: ∀(l:List Cx),∀u∈l.flatMap Cx.cells,u.oneCell'=true:=fun l u hu=>by
 obtain⟨x,-,hx⟩:=List.mem_flatMap.1 hu;simp only[Cx.cells,I,m6,V6,Q1]at hx;rcases hx with rfl | rfl<;>rfl
def qk7 (l:List Cx)(w:World)(r:Ending)(w':World):Prop:= ∃v',r= .returned v'∧Q0 w' v' l∧z6 [] w w'∧(∀b∈m5 v',w.heap.size≤b)∧ ∀b∈m5 v',Kd w' b 53
theorem xp (v:Value)(l:List Cx)(w:World)(hv:Q0 w v l)(hl:l.length≤100000):Calls Tryz.prog 69 #[v] w (qk7 l w):=by
 obtain⟨A,cap,rfl⟩:=hv.form
 cases A with
 | none=>
  have Hk:l= []:=by
   cases l with
   | nil=>rfl
   | cons a t=>
    obtain⟨b,off,e,-⟩:=hv.addr (k:=0) (by simp);cases e
  subst Hk;have t_: ∀W,(binOp .eql 32 (.slice none 0 cap) (.slice none 0 0)).run Tryz.prog W= .ok (.bool true) W:=fun W=>run_eql_nil_slice W _ _ _ _ _ _ _ Tryz.underlying32;go_enter Tryz.func69,Tryz.ntmps69;go_wp2_with fail;go_ret;exact⟨_,rfl,⟨Reads.nil _ _,by simp⟩,z8 _ _,by simp[m5],by simp[m5]⟩
 | some a=>
  have hE:=Yt;have qb1:Own (w.alloc (.cells #[] 53)) 53 2 (.slice (some ⟨w.heap.size,0,none⟩) 0 0) 0 []:=⟨rfl,.inr ⟨w.heap.size,0,#[],rfl,O2 _,heap_alloc_new w _,a9 _,O2 _,rfl,rfl⟩⟩;have hr:Reads (w.alloc (.cells #[] 53)) 2 (.slice (some a) l.length cap) l.length (l.flatMap Cx.cells):=(hv.q8 ((z8 [] w).alloc _)).1;have Rw:=O hv.2
  have t_: ∀W,(binOp .eql 32 (.slice (some a) l.length cap) (.slice none 0 0)).run Tryz.prog W= .ok (.bool false) W:=fun W=>by
   have:=run_equal_slice_nil (P:=Tryz.prog) 32 53 (some a) l.length cap Tryz.underlying32 (w:=W);simp[binOp,this,Result.andThen]
  go_enter Tryz.func69,Tryz.ntmps69;go_wp2_with (refine mH hE qb1 hr (qj3 l) (by omega) (by unfold maxLen;omega) ?_;intro v' w' ho ht hf);simp only[O3,Qy]at ho;go_ret;refine⟨_,rfl,⟨ho.reads,Rw.o⟩,(((z8 [] w).alloc _).step ht (fun m hm=> .inr ?_)),fun b hb=> ?_,ho.kd⟩
  ·simp[m5]at hm;omega
  ·rcases hf b hb with h1 | h1
   ·simp[m5]at h1;omega
   ·exact j9 ((z8 [] w).alloc _).size h1
def mX (n:Nat)(xs:List Int)(i:Nat)(g:List Cx):Bool:=Iw g&&(decide (g.length=0)==decide (i+1=n))&&g.all (fun y=>xs.contains y.a)
def Im (xs:List Int)(ls:List (List Cx))(i:Nat):Bool:=mX ls.length xs i (ls.getD i [])
def C1 (xs:List Int)(ls:List (List Cx)):Bool:=Fa xs&&decide (1≤ls.length)&&decide (ls.length≤4096)&&(List.range ls.length).all (Im xs ls)
def YX (xs:List Int)(ls:List (List Cx))(w1:World)(ti:Value)(wr:World):Prop:= ∃k:Nat,k≤ls.length∧ti= .int .i64 k∧z6 [] w1 wr∧Hid (∀j,j<k→Im xs ls j=true)
theorem yz (hk:k<ls.length)(h:Im xs ls k=false):(List.range ls.length).all (Im xs ls)=false:=by
 rw[kK];exact⟨k,Gj.2 hk,by rw[h];simp⟩
theorem yx (h: ∀j,j<k→Im xs ls j=true)(hk:ls.length≤k):(List.range ls.length).all (Im xs ls)=true:=Z6.2 (fun j hj=>h j (by have:=Gj.1 hj;omega))
theorem Uw (h: ∀j,j<k→Im xs ls j=true)(hk:Im xs ls k=true): ∀j,j<k+1→Im xs ls j=true:=fun j hj=>by
 rcases Is.1 hj with h3 | h3
 ·exact h j h3
 ·rw[h3];exact hk
theorem vV (VS VL:Value)(xs:List Int)(ls:List (List Cx))(w:World)(hS:e8 w VS xs)(hL:C8 2 Cx.cells Cx.Fit w VL ls)(Ks:xs.length≤100000)(T3:ls.length≤100000)(Bo: ∀x∈ls,x.length≤100000):Calls Tryz.prog 132 #[.agg #[VS,VL]] w fun r w'=>r= .returned (.bool (C1 xs ls))∧z6 [] w w':=by
 have xP:=p7 (fun W t=>LN VS xs W (hS.q8 t) Ks);have DA:=O (fun(h:Fa xs=true) (W:World) (t:z6 [] w W)=>Li VS xs W (hS.q8 t) (R5 h));obtain⟨Al,cl,rfl⟩:=hL.form;have Rm:=p7 (fun W t=>hL.q8 t);have TB:=(z8 [] w).alloc (.cells #[VS,.slice Al ls.length cl] 35);have BX:=j4.new w 35 #[VS,.slice Al ls.length cl];have Vu:=O TB;have N6:=O BX;have q0:=(BX.cell 0).trans rfl;have q1:=(BX.cell 1).trans rfl;have HR:Hid (C1 xs ls=(Fa xs&&decide (1≤ls.length)&&decide (ls.length≤4096)&&(List.range ls.length).all (Im xs ls))):=O rfl;generalize C1 xs ls=n9 at*;clear hS hL TB BX
 cases hs:Fa xs with
 | false=>
  rw[hs]at xP HR;simp only[B6,Uc,if_false]at xP HR;clear hs;go_enter Tryz.func132,Tryz.ntmps132;go_wp2_with fail;refine(xP.o _ Vu.o).mono ?_;rintro r w1 ⟨rfl,t1⟩;have J6:=O t1;clear t1 q0 q1;go_wp2_with fail;go_ret;exact⟨v9 (by rw[HR.o]),Vu.o.Y J6.o⟩
 | true=>
  rw[hs]at xP HR;simp only[Z4,if_true]at xP HR;have zh3:=O (DA.o hs);have xO:=O hs;clear hs DA;go_enter Tryz.func132,Tryz.ntmps132;go_wp2_with fail;refine(xP.o _ Vu.o).mono ?_;rintro r w1 ⟨rfl,t1⟩;have J6:=O (Vu.o.Y t1);have Ag:=O (N6.o.z7 t1 (by simp));have p0:=(Ag.o.cell 0).trans rfl;have p1:=(Ag.o.cell 1).trans rfl;clear t1 q0 q1;by_cases h1:ls.length<1
  ·have OP:(ls.length:Int)<1:=by omega
   have y5:Hid (n9=false):=O (by rw[HR.o,v8 (by omega)];rfl);go_wp2_with fail;go_ret;exact⟨v9 (by rw[y5.o]),J6.o⟩
  have OP: ¬(ls.length:Int)<1:=by omega
  by_cases h2:4096<ls.length
  ·have h2':(4096:Int)< (ls.length:Int):=by omega
   have y5:Hid (n9=false):=O (by rw[HR.o,v8 (show¬ls.length≤4096 by omega),Nk];rfl);go_wp2_with fail;go_ret;exact⟨v9 (by rw[y5.o]),J6.o⟩
  have h2': ¬(4096:Int)< (ls.length:Int):=by omega
  rw[b_ (show 1≤ls.length by omega),b_ (show ls.length≤4096 by omega),Z4,Z4]at HR;have hz:=jV;go_wp2_with fail;refine(zh3.o _ J6.o).mono ?_;rintro r w2 ⟨rfl,t2⟩;have OY:=O (fun(n:Int)=>Y4 (R5 xO.o) n);have mn:=O (Ca (R5 xO.o));have hs8:=m8 mn.o;have I6:=V7 (D9 xs);unfold T5;have Zp:=O (fun(n:Int) (W:World)=>Ee (D9 xs) mn.o n W);unfold T5 at Zp;generalize ((D9 xs).map y6).toArray=cs at*;go_upto_region 7 with(first | (refine D0 (j4.new _ _ _) (m8 L5) hs8 I6 ?_;intro w3 b3 t3))
  have T23:=((z8 [] w2).alloc (.cells ((l8.map y6).toArray) 69)).step t3 (fun m hm=> .inr (by rw[y7]at hm;omega));have V3:=O ((J6.o.Y t2).Y T23);have uy:=O b3;have jT:=O ((Ag.o.z7 t2 (by simp)).z7 T23 (by simp));have p3:=(jT.o.cell 1).trans rfl;clear p0 p1 t2 t3 b3 T23 hz;go_wp2_with fail;clear p3;go_loopw [38] (fun ti wr=>YX xs ls w3 ti wr) (fun ti _=>ls.length - (intOf ti).toNat)
  case atStart=>exact⟨0,by omega,rfl,z8 _ _,O (fun j h=>by omega)⟩
  case round=>
   obtain⟨k,hk,rfl,ht,HX⟩:=hrel;have HT:=O ht;have Q8:=O (V3.o.Y ht);by_cases Z:k<ls.length
   ·have j1:(k:Int)< (ls.length:Int):=by omega
    have Na:=Rm.o wr Q8.o;obtain⟨b2,Hn,u,rfl,U3,cu,Yy⟩:=Na.at_ Z;have dt:=Bo _ (k8 Z);have V_:Hid (Im xs ls k=mX ls.length xs k ls[k]):=O (by unfold Im;rw[Bz,j6 Z];rfl);obtain⟨Au,X2,rfl⟩:=Yy.form;have Zc:=O (Du _ _ wr Yy dt);have p4:=((jT.o.z7 ht (by simp)).cell 1).trans rfl;generalize ls[k]=x at*;have bK:=p7 (fun W t=>Yy.q8 t);have Hm:=O (fun(e:Im xs ls k=false)=>yz Z e);clear Na U3 Yy ht
    cases hc:Iw x with
    | false=>
     have y5:Hid (n9=false):=O (by rw[HR.o];exact Hm.o (by rw[V_.o];unfold mX;rw[hc];rfl));rw[hc]at Zc;clear hc;go_wp2_with fail;refine Zc.o.mono ?_;rintro r w4 ⟨rfl,t4⟩;have Il:=O (Q8.o.Y t4);clear t4;go_wp2_with fail;go_ret;exact⟨v9 (by rw[y5.o]),Il.o⟩
    | true=>
     rw[hc]at Zc;have Ge:Hid (Im xs ls k=((decide (x.length=0)==decide (k+1=ls.length))&&x.all (fun y=>xs.contains y.a))):=O (by rw[V_.o];unfold mX;rw[hc,Z4]);clear hc V_;by_cases e0:x.length=0
     ·by_cases e1:k+1=ls.length
      ·rw[b_ e0,b_ e1]at Ge;simp only[BEq.rfl,Z4]at Ge;have A_:((x.length:Int)==0)=true:=by rw[beq_iff_eq];omega
       have z_:(ls.length:Int) - 1=(k:Int):=by omega
       have HE0:=O e0;clear e0 e1;go_wp2_with fail;refine Zc.o.mono ?_;rintro r w4 ⟨rfl,t4⟩;have Il:=O (HT.o.Y t4);have GA:=O t4;have GD:=p7 (fun W t=>bK.o W (t4.Y t));have p5:=((jT.o.z7 (HT.o.Y t4) (by simp)).cell 1).trans rfl;clear t4 p4;go_wp2_with fail;go_loopw [60] (fun ti wq=>C9 (fun y=>xs.contains y.a) w4 x ti wq) (fun ti _=>x.length - (intOf ti).toNat)
       case atStart=>exact⟨0,by omega,rfl,z8 _ _,O (fun j y h=>by omega)⟩
       case round=>
        obtain⟨m,hm,rfl,qV,HY⟩:=hrel;have Zy:=O (Il.o.Y qV);have FD: ¬(m:Int)< (x.length:Int):=by have:=HE0.o;omega
        have Sz:=O (Uw HX.o (by rw[Ge.o];exact U8 HY.o (by have:=HE0.o;omega)));clear HX HY;go_wp2_with fail;exact⟨⟨k+1,Z,by go_num,Zy.o,Sz⟩,by simp[intOf];omega⟩
      ·rw[b_ e0,v8 e1]at Ge;have y5:Hid (n9=false):=O (by rw[HR.o];exact Hm.o (by rw[Ge.o];rfl));have A_:((x.length:Int)==0)=true:=by rw[beq_iff_eq];omega
       have z_:((k:Int)==(ls.length:Int) - 1)=false:=by rw[Of];omega
       clear e0 e1;go_wp2_with fail;refine Zc.o.mono ?_;rintro r w4 ⟨rfl,t4⟩;have Il:=O (Q8.o.Y t4);have p5:=((jT.o.z7 (HT.o.Y t4) (by simp)).cell 1).trans rfl;clear t4 p4;go_wp2_with fail;go_ret;exact⟨v9 (by rw[y5.o]),Il.o⟩
     ·by_cases e1:k+1=ls.length
      ·rw[v8 e0,b_ e1]at Ge;have y5:Hid (n9=false):=O (by rw[HR.o];exact Hm.o (by rw[Ge.o];rfl));have A_:((x.length:Int)==0)=false:=by rw[Of];omega
       have z_:(ls.length:Int) - 1=(k:Int):=by omega
       clear e0 e1;go_wp2_with fail;refine Zc.o.mono ?_;rintro r w4 ⟨rfl,t4⟩;have Il:=O (Q8.o.Y t4);have p5:=((jT.o.z7 (HT.o.Y t4) (by simp)).cell 1).trans rfl;clear t4 p4;go_wp2_with fail;go_ret;exact⟨v9 (by rw[y5.o]),Il.o⟩
      ·rw[v8 e0,v8 e1]at Ge;simp only[BEq.rfl,Z4]at Ge;have A_:((x.length:Int)==0)=false:=by rw[Of];omega
       have z_:((k:Int)==(ls.length:Int) - 1)=false:=by rw[Of];omega
       clear e0 e1;go_wp2_with fail;refine Zc.o.mono ?_;rintro r w4 ⟨rfl,t4⟩;have Il:=O (HT.o.Y t4);have GA:=O t4;have GD:=p7 (fun W t=>bK.o W (t4.Y t));have p5:=((jT.o.z7 (HT.o.Y t4) (by simp)).cell 1).trans rfl;clear t4 p4;go_wp2_with fail;go_loopw [60] (fun ti wq=>C9 (fun y=>xs.contains y.a) w4 x ti wq) (fun ti _=>x.length - (intOf ti).toNat)
       case atStart=>exact⟨0,by omega,rfl,z8 _ _,O (fun j y h=>by omega)⟩
       case round=>
        obtain⟨m,hm,rfl,qV,HY⟩:=hrel;have Zy:=O (Il.o.Y qV);by_cases DQ:m<x.length
        ·have FD:(m:Int)< (x.length:Int):=by omega
         have aZ:=GD.o wr qV;obtain⟨b,off,rfl,hb⟩:=aZ.addr DQ;obtain⟨ca,cb⟩:=Q0.at_ aZ DQ;have D7:Hid (xs.contains x[m].a=false→n9=false):=O (fun e=>by rw[HR.o];exact Hm.o (by rw[Ge.o];exact B7 (good:=fun y=>xs.contains y.a) DQ e));have I5:Hid (xs.contains x[m].a=true→ ∀(j:Nat) y,j<m+1→x[j]? =some y→xs.contains y.a=true):=O (fun e=>X7 (good:=fun y=>xs.contains y.a) HY.o DQ e);have HQ1:=O (OY.o x[m].a);have HHX:=O (Zp.o x[m].a);rw[HQ1.o]at HHX;have N6:=O (j4.new wr 53 #[.int .i64 x[m].a,.int .i64 x[m].b]);have q0:=(N6.o.cell 0).trans rfl;have V0:=O (qV.alloc (.cells #[.int .i64 x[m].a,.int .i64 x[m].b] 53));have HBS:=O (uy.o.z7 (HT.o.Y (GA.o.Y (qV.alloc (.cells #[.int .i64 x[m].a,.int .i64 x[m].b] 53)))) (by simp));generalize x[m].a=xa at*;generalize x[m].b=xb at*;clear aZ hb qV HY HQ1
         cases hh:xs.contains xa with
         | false=>
          rw[hh]at HHX;have y5:=O (D7.o hh);clear hh;go_wp2_with (first | (refine U5 HBS.o hs8 ?_));refine(HHX.o _).mono ?_;rintro r w5 ⟨rfl,t5⟩;have K8:=O ((Q8.o.Y GA.o).Y (V0.o.Y t5));clear t5;go_wp2_with fail;go_ret;exact⟨v9 (by rw[y5.o]),K8.o⟩
         | true=>
          rw[hh]at HHX;have Sz:=O (I5.o hh);clear hh;go_wp2_with (first | (refine U5 HBS.o hs8 ?_));refine(HHX.o _).mono ?_;rintro r w5 ⟨rfl,t5⟩;have K8:=O (V0.o.Y t5);clear t5;go_wp2_with fail;exact⟨⟨m+1,DQ,by go_num,K8.o,Sz⟩,by simp[intOf];omega⟩
        ·have FD: ¬(m:Int)< (x.length:Int):=by omega
         have Sz:=O (Uw HX.o (by rw[Ge.o];exact U8 HY.o (by omega)));clear HX HY;go_wp2_with fail;exact⟨⟨k+1,Z,by go_num,Zy.o,Sz⟩,by simp[intOf];omega⟩
   ·have j1: ¬(k:Int)< (ls.length:Int):=by omega
    have y5:Hid (n9=true):=O (by rw[HR.o];exact yx HX.o (by omega));clear HX;go_wp2_with fail;go_ret;exact⟨v9 (by rw[y5.o]),Q8.o⟩
end Go.Proofs.YtlhlmcohdkkjpaaGreatDoor
