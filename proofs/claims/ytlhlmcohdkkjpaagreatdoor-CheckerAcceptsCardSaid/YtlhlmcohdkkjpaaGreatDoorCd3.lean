/- The document: Restrict of layer 17 and Valid of layer 21, given the contract of layer 17's Valid. -/
import Derived.Test.YtlhlmcohdkkjpaaGreatDoorZN
import Derived.Test.YtlhlmcohdkkjpaaGreatDoorZO
set_option linter.all false
set_option maxHeartbeats 32000000
set_option maxRecDepth 100000
namespace Go.Proofs.YtlhlmcohdkkjpaaGreatDoor
open Go.RowKit
def RV:Prop:= ∀(p:Px) (VD VP VL VC:Value) (w:World),K3 w VD VP VL VC p→P0 p→Calls Tryz.prog 7 #[.agg #[VD,VP,VL,VC]] w fun r w'=>r= .returned (.bool (J5 p))∧z6 [] w w'
theorem Rg (hv:RV)(p:Px)(VD VP VL VC VS:Value)(l:List Int)(w:World)(h:K3 w VD VP VL VC p)(hl:P0 p)(hS:e8 w VS l)(T3:l.length≤100000):Calls Tryz.prog 28 #[.agg #[VD,VP,VL,VC],VS] w (JZ p l w):=
 pK p VD VP VL VC VS l w h hl hS T3 (fun W t=>hv p VD VP VL VC W (h.q8 t) hl)
theorem ze (l:List Dx)(n:Int):(L2 l n<0∧ ∀d∈l,d.st≠n)∨ ∃i,∃h:i<l.length,L2 l n=(i:Int)∧l[i].st=n:=by
 unfold L2
 cases e:l.findIdx? (fun d=>d.st==n)with
 | none=>
  rw[tF]at e;exact .inl ⟨by simp,fun d hd h=>by have:=e d hd;simp[h]at this⟩
 | some i=>
  obtain⟨h1,h2,-⟩:=tE.1 e;exact .inr ⟨i,h1,rfl,by simpa using h2⟩
variable{c n:Int}{l:List Dx}
theorem VE (hn:l.Pairwise (fun x y=>x.st≠y.st)){i:Nat}(hi:i<l.length)(h:l[i].st=n):l.any (fun d=>d.st==n&&d.ch.contains c)=l[i].ch.contains c:=by
 cases e:l[i].ch.contains c with
 | true=>exact Ua.2 ⟨l[i],k8 hi,by rw[e,h];simp⟩
 | false=>
  rw[tH];intro d hd hq;simp only[p9,beq_iff_eq]at hq;obtain⟨j,hj,rfl⟩:=Bg hd
  have Rl:i=j:=by
   rcases dM i j with h1 | h1 | h1
   ·exact absurd (h.trans hq.1.symm) (Yg.1 hn i j hi hj h1)
   ·exact h1
   ·exact absurd (hq.1.trans h.symm) (Yg.1 hn j i hj hi h1)
  subst Rl;rw[e]at hq;cases hq.2
theorem VB (h: ∀d∈l,d.st≠n):l.any (fun d=>d.st==n&&d.ch.contains c)=false:=by
 rw[tH];intro d hd hq;simp only[p9,beq_iff_eq]at hq;exact h d hd hq.1
def cJ (p:Px)(y:Cx):Bool:=p.D.any (fun d=>d.st==y.a&&d.ch.contains y.b)
theorem vR (hv:RV)(p:Px)(VD VP VL VC VG:Value)(l:List Cx)(w:World)(h:K3 w VD VP VL VC p)(hl:P0 p)(hG:Q0 w VG l)(T3:l.length≤100000):Calls Tryz.prog 98 #[.agg #[VD,VP,VL,VC],VG] w fun r w'=>r= .returned (.bool (J5 p&&Eo p l))∧z6 [] w w':=by
 have HV:=p7 (fun W t=>hv p VD VP VL VC W (h.q8 t) hl);have HLI:=p7 (fun W t=>Hj VG l W (hG.q8 t) T3);have aB:=O (fun(W:World) (t:z6 [] w W) (n:Int)=>Py VD VP VL VC p.D n W (h.d.q8 t));have Bb:=p7 (fun W t=>h.q8 t);have QQ:=p7 (fun W t=>hG.q8 t);have qQ:=O (fun(e:J5 p=true)=>(Cg e).st);have HDL:=O hl.d;obtain⟨n9,Cp⟩: ∃n9,n9=(J5 p&&(Iw l&&l.all (cJ p))):=⟨_,rfl⟩;rw[show(J5 p&&Eo p l)=n9 from Cp.symm];have Hr:=O Cp;clear Cp;obtain⟨AD,cD,rfl,-,-⟩:=h.d.form;obtain⟨AP,cP,rfl⟩:=h.pr.form;obtain⟨AL,cL,rfl⟩:=h.ld.form;obtain⟨AC,cC,rfl⟩:=h.cp.form;obtain⟨AG,cG,rfl⟩:=hG.form;have b0:=j4.new w 29 #[.slice AD p.D.length cD,.slice AP p.R.P.length cP,.slice AL p.R.L.length cL,.slice AC p.R.C.length cC];have t0:=(z8 [] w).alloc (.cells #[.slice AD p.D.length cD,.slice AP p.R.P.length cP,.slice AL p.R.L.length cL,.slice AC p.R.C.length cC] 29);clear h hl hG;go_enter Tryz.func98,Tryz.ntmps98;go_upto_region 1 with fail
 generalize w.alloc _=wa at b0 t0⊢;obtain⟨gp,hgp⟩: ∃gp,gp=w.heap.size:=⟨_,rfl⟩;rw[←hgp]at b0⊢;have D7:=O b0;have m9:=O t0;obtain⟨c0,c1,c2,c3⟩:=b0.F2;clear b0 t0 hgp;go_wp2_with fail;refine(HV.o _ m9.o).mono ?_;rintro r w1 ⟨rfl,t1⟩;have J6:=O (m9.o.Y t1);have Zf:=O t1;clear c0 c1 c2 c3 t1
 cases J3:J5 p with
 | false=>
  have T4:Hid (n9=false):=O (by rw[Hr.o,J3];rfl);clear J3;go_wp2_with fail;go_ret;exact⟨by rw[T4.o];rfl,J6.o⟩
 | true=>
  have Y7:=O J3;rw[J3,Z4]at Hr;clear J3;go_wp2_with fail;refine(HLI.o _ J6.o).mono ?_;rintro r w2 ⟨rfl,t2⟩;have B4:=O (J6.o.Y t2);have Su:=O (Zf.o.Y t2);clear t2
  cases hck:Iw l with
  | false=>
   rw[hck,B6]at Hr;clear hck;go_wp2_with fail;go_ret;exact⟨by rw[Hr.o];rfl,B4.o⟩
  | true=>
  rw[hck,Z4]at Hr;clear hck;have HC:=p7 (fun W t=>(D7.o.z7 (Su.o.Y t) (by simp)).F2);clear D7 Zf J6;go_wp2_with fail;go_loopw [5] (fun ti wr=>C9 (cJ p) w2 l ti wr) (fun ti _=>l.length - (intOf ti).toNat)
  case atStart=>exact⟨0,by omega,rfl,z8 _ _,O (fun j x h=>by omega)⟩
  case round=>
   obtain⟨k,hk,rfl,ht,HX⟩:=hrel;have HT:=O ht;have Q8:=O (B4.o.Y ht);by_cases Z:k<l.length
   ·have j1:(k:Int)< (l.length:Int):=by omega
    have hn:=QQ.o wr Q8.o;obtain⟨b,off,rfl,hb⟩:=hn.addr Z;have Ko:=p7 (fun W t=>Q0.at_ (hn.q8 t) Z);have yF:=hn.cap;have Sr:wrap64 ((k:Int)+1)=(k:Int)+1:=by unfold wrap64;omega
    have XN:=p7 (fun W t=>HC.o W (HT.o.Y t));have HF:=p7 (fun W t=>aB.o W (Q8.o.Y t) l[k].a)
    have bY:Hid (cJ p l[k]=false→n9=false):=O (fun e=>by
     rw[Hr.o,kK]
     exact⟨_,k8 Z,by rw[e];simp⟩)
    have W7:Hid (cJ p l[k]=true→ ∀(j:Nat) x,j<k+1→l[j]? =some x→cJ p x=true):=O (fun e=>X7 (good:=cJ p) HX.o Z e);generalize l[k]=y at*;have Vm:=O (ze p.D y.a);clear hn hb ht HX yF;go_wp2_with fail;refine wp_region_held_drew (S:=fun W=>z6 [] wr W) (by kernel_rfl) (z8 _ _).drew (fun hS=> ?_);refine kw 0 hS ?_ (hy:=by intro W m7;obtain⟨e0,e1,e2,e3⟩:=XN.o W m7;go_simp<;>rfl);refine kw 1 hS ?_;refine kw 2 hS ?_;refine kw 3 hS ?_;refine kw 4 hS ?_;refine kw 5 hS ?_ (hy:=by intro W m7;obtain⟨ca,cb⟩:=Ko.o W m7;go_simp<;>rfl);refine s8 6 rfl (fun K hK=> ?_);go_simp;refine(HF.o _ hS).mono ?_;rintro r w5 ⟨rfl,t5⟩;have p8:=hS.Y t5;go_wp2_with fail;refine zk6 hK p8 ?_;clear hK K;refine s8 7 rfl (fun K hK=> ?_);go_simp;refine zk6 hK p8 ?_;clear hK K;refine wpAnyH_done (by kernel_rfl) ?_ _;go_upto_region 7 with fail
    have K8:=O (HT.o.Y p8);have yH:=O (Q8.o.Y p8);have zh8:=p7 (fun W t=>XN.o W (p8.Y t));have zi6:=p7 (fun W t=>Ko.o W (p8.Y t));clear hS p8 t5 XN Ko HF;rcases Vm.o with⟨hz,Iz⟩ | ⟨i,hi,hz,Z7⟩
    ·have dz:decide (L2 p.D y.a<0)=true:=b_ hz;have T4:=O (bY.o (VB Iz));clear hz Iz;refine wp_region_held_drew (S:=fun W=>z6 [] w5 W) (by kernel_rfl) (z8 _ _).drew (fun hS=> ?_);refine kw 0 hS ?_;refine kw 1 hS ?_;refine kw 2 hS ?_;refine ku 3 hS ?_;refine ku 4 hS ?_;refine ku 5 hS ?_;refine ku 6 hS ?_;refine ku 7 hS ?_;refine ku 8 hS ?_;refine ku 9 hS ?_;refine ku 10 hS ?_;refine ku 11 hS ?_;refine ku 12 hS ?_;refine ku 13 hS ?_;refine ku 14 hS ?_;refine ku 15 hS ?_;refine s8 16 rfl (fun K hK=> ?_);go_simp;refine zk6 hK hS ?_;clear hK K;refine wpAnyH_done (by kernel_rfl) ?_ _;have Bq:=O (yH.o.Y hS);clear hS;go_wp2_with fail;go_ret;exact⟨by rw[T4.o];rfl,Bq.o⟩
    ·rw[hz];have dz:decide ((i:Int)<0)=false:=v8 (by omega);have Xt:(i:Int)< (p.D.length:Int):=by omega
     have hdw:=Bb.o w (z8 _ _);obtain⟨bd,od,cc,rfl,WT,-,N0⟩:=hdw.d.at_ hi;have HXX:=p7 (fun W t=>N0 W (yH.o.Y t));obtain⟨A2,X2,rfl⟩:=(N0 w (z8 _ _)).2.2.form;have HH:=p7 (fun W t=>Gx _ p.D[i].ch y.b W (HXX.o W t).2.2);have hgc:cJ p y=p.D[i].ch.contains y.b:=VE (qQ.o Y7.o) hi Z7;rw[hgc]at bY W7;generalize p.D[i].ch=ch at*;generalize p.D[i].st=sti at*;generalize ch.contains y.b=qv at*;clear hdw WT N0 hz Z7 hgc hi;refine wp_region_held_drew (S:=fun W=>z6 [] w5 W) (by kernel_rfl) (z8 _ _).drew (fun hS=> ?_);refine kw 0 hS ?_;refine kw 1 hS ?_;refine kw 2 hS ?_;refine kw 3 hS ?_;refine kw 4 hS ?_ (hy:=by intro W m7;obtain⟨e0,e1,e2,e3⟩:=zh8.o W m7;go_simp<;>rfl);refine kw 5 hS ?_;refine kw 6 hS ?_;refine kw 7 hS ?_;refine kw 8 hS ?_ (hy:=by intro W m7;obtain⟨x0,x1,-⟩:=HXX.o W m7;go_simp<;>rfl);refine kw 9 hS ?_;refine kw 10 hS ?_;refine kw 11 hS ?_;refine kw 12 hS ?_;refine kw 13 hS ?_ (hy:=by intro W m7;obtain⟨ca,cb⟩:=zi6.o W m7;go_simp<;>rfl);refine s8 14 rfl (fun K hK=> ?_);go_simp;refine(HH.o _ hS).mono ?_;rintro r w6 ⟨rfl,t6⟩;have p8:=hS.Y t6;go_wp2_with fail;refine zk6 hK p8 ?_;clear hK K;refine s8 15 rfl (fun K hK=> ?_);go_simp;refine zk6 hK p8 ?_;clear hK K;refine s8 16 rfl (fun K hK=> ?_);go_simp;refine zk6 hK p8 ?_;clear hK K;refine wpAnyH_done (by kernel_rfl) ?_ _;have Bq:=O p8;clear hS p8 t6
     cases qv with
     | false=>
      have T4:=O (bY.o (by first | rfl | trivial));go_wp2_with fail;go_ret;exact⟨by rw[T4.o];rfl,yH.o.Y Bq.o⟩
     | true=>
      have Mv:=O (W7.o (by first | rfl | trivial));go_wp2_with fail;(try rw[Sr]);exact⟨⟨k+1,by omega,by go_num,K8.o.Y Bq.o,Mv⟩,by simp[intOf];omega⟩
   ·have j1: ¬(k:Int)< (l.length:Int):=by omega
    have gZ:Hid (n9=true):=O (by rw[Hr.o];exact U8 (good:=cJ p) HX.o (by omega));clear HX ht;go_wp2_with fail;go_ret;exact⟨by rw[gZ.o];rfl,Q8.o⟩
end Go.Proofs.YtlhlmcohdkkjpaaGreatDoor
