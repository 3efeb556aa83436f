/- The document: Valid of layer 23. -/
import Derived.Test.YtlhlmcohdkkjpaaGreatDoorCd3
import Derived.Test.YtlhlmcohdkkjpaaGreatDoorZT
set_option linter.all false
set_option maxHeartbeats 32000000
set_option maxRecDepth 100000
namespace Go.Proofs.YtlhlmcohdkkjpaaGreatDoor
open Go.RowKit
theorem pM (VS VL:Value)(xs:List Int)(ls:List (List Cx))(w:World)(hS:e8 w VS xs)(hL:C8 2 Cx.cells Cx.Fit w VL ls)(Ks:xs.length≤100000)(T3:ls.length≤100000)(Bo: ∀x∈ls,x.length≤100000):Calls Tryz.prog 97 #[.agg #[VS,VL]] w fun r w'=>r= .returned (.bool (C1 xs ls))∧z6 [] w w':=by
 have mP:=p7 (fun W t=>Ay VS xs W (hS.q8 t) Ks);have Vn:=O (fun(W:World) (t:z6 [] w W) (n:Int)=>Gx VS xs n W (hS.q8 t));obtain⟨Al,cl,rfl⟩:=hL.form;obtain⟨AS,cS,rfl⟩:=hS.form;have Rm:=p7 (fun W t=>hL.q8 t);have TB:=(z8 [] w).alloc (.cells #[.slice AS xs.length cS,.slice Al ls.length cl] 35);have BX:=j4.new w 35 #[.slice AS xs.length cS,.slice Al ls.length cl];have Vu:=O TB;have N6:=O BX;have q0:=(BX.cell 0).trans rfl;have q1:=(BX.cell 1).trans rfl;have HR:Hid (C1 xs ls=(Fa xs&&decide (1≤ls.length)&&decide (ls.length≤4096)&&(List.range ls.length).all (Im xs ls))):=O rfl;generalize C1 xs ls=n9 at*;clear hS hL TB BX;go_enter Tryz.func97,Tryz.ntmps97;go_wp2_with fail;refine(mP.o _ Vu.o).mono ?_;rintro r w1 ⟨rfl,t1⟩;have J6:=O (Vu.o.Y t1);have Ag:=O (N6.o.z7 t1 (by simp));clear t1 q0 q1
 cases hs:Fa xs with
 | false=>
  have y5:Hid (n9=false):=O (by rw[HR.o,hs];rfl);clear hs;go_wp2_with fail;go_ret;exact⟨v9 (by rw[y5.o]),J6.o⟩
 | true=>
  rw[hs,Z4]at HR;clear hs;have p0:=(Ag.o.cell 0).trans rfl;have p1:=(Ag.o.cell 1).trans rfl;by_cases h1:ls.length<1
  ·have OP:(ls.length:Int)<1:=by omega
   have y5:Hid (n9=false):=O (by rw[HR.o,v8 (by omega)];rfl);go_wp2_with fail;go_ret;exact⟨v9 (by rw[y5.o]),J6.o⟩
  have OP: ¬(ls.length:Int)<1:=by omega
  by_cases h2:4096<ls.length
  ·have h2':(4096:Int)< (ls.length:Int):=by omega
   have y5:Hid (n9=false):=O (by rw[HR.o,v8 (show¬ls.length≤4096 by omega),Nk];rfl);go_wp2_with fail;go_ret;exact⟨v9 (by rw[y5.o]),J6.o⟩
  have h2': ¬(4096:Int)< (ls.length:Int):=by omega
  rw[b_ (show 1≤ls.length by omega),b_ (show ls.length≤4096 by omega),Z4,Z4]at HR;go_wp2_with fail;clear p0 p1;go_loopw [3] (fun ti wr=>YX xs ls w1 ti wr) (fun ti _=>ls.length - (intOf ti).toNat)
  case atStart=>exact⟨0,by omega,rfl,z8 _ _,O (fun j h=>by omega)⟩
  case round=>
   obtain⟨k,hk,rfl,ht,HX⟩:=hrel;have HT:=O ht;have Q8:=O (J6.o.Y ht);have jT:=Ag;have p4:=((Ag.o.z7 ht (by simp)).cell 1).trans rfl;by_cases Z:k<ls.length
   ·have j1:(k:Int)< (ls.length:Int):=by omega
    have Sr:wrap64 ((k:Int)+1)=(k:Int)+1:=by unfold wrap64;omega
    have Na:=Rm.o wr Q8.o;obtain⟨b2,Hn,u,rfl,U3,cu,Yy⟩:=Na.at_ Z;have dt:=Bo _ (k8 Z);have bK:=p7 (fun W t=>Yy.q8 t);have Zc:=O (Hj u ls[k] wr Yy dt);obtain⟨Au,X2,rfl⟩:=Yy.form;have V_:Hid (Im xs ls k=mX ls.length xs k ls[k]):=O (by unfold Im;rw[Bz,j6 Z];rfl);have Hm:=O (fun(e:Im xs ls k=false)=>yz Z e);generalize ls[k]=x at*;clear Na U3 Yy ht
    cases hc:Iw x with
    | false=>
     have y5:Hid (n9=false):=O (by rw[HR.o];exact Hm.o (by rw[V_.o];unfold mX;rw[hc];rfl));rw[hc]at Zc;clear hc;go_wp2_with fail;refine Zc.o.mono ?_;rintro r w4 ⟨rfl,t4⟩;have Il:=O (Q8.o.Y t4);clear t4;go_wp2_with fail;go_ret;exact⟨v9 (by rw[y5.o]),Il.o⟩
    | true=>
     rw[hc]at Zc;have Ge:Hid (Im xs ls k=((decide (x.length=0)==decide (k+1=ls.length))&&x.all (fun y=>xs.contains y.a))):=O (by rw[V_.o];unfold mX;rw[hc,Z4]);clear hc V_;by_cases e0:x.length=0
     ·by_cases e1:k+1=ls.length
      ·rw[b_ e0,b_ e1]at Ge;simp only[BEq.rfl,Z4]at Ge;have A_:((x.length:Int)==0)=true:=by rw[beq_iff_eq];omega
       have z_:(ls.length:Int) - 1=(k:Int):=by omega
       have HE0:=O e0;clear e0 e1;go_wp2_with fail;refine Zc.o.mono ?_;rintro r w4 ⟨rfl,t4⟩;have Il:=O (HT.o.Y t4);have qe0:=O (Q8.o.Y t4);have GA:=O t4;have GD:=p7 (fun W t=>bK.o W (t4.Y t));have p5:=((jT.o.z7 (HT.o.Y t4) (by simp)).cell 1).trans rfl;clear t4 p4;go_wp2_with fail;clear p5;generalize wr=wz at*;go_loopw [5] (fun ti wq=>C9 (fun y=>xs.contains y.a) w4 x ti wq) (fun ti _=>x.length - (intOf ti).toNat)
       case atStart=>exact⟨0,by omega,rfl,z8 _ _,O (fun j y h=>by omega)⟩
       case round=>
        obtain⟨m,hm,rfl,qV,HY⟩:=hrel;have Zy:=O (Il.o.Y qV);have yH:=O (qe0.o.Y qV);have FD: ¬(m:Int)< (x.length:Int):=by have:=HE0.o;omega
        have Sz:=O (Uw HX.o (by rw[Ge.o];exact U8 HY.o (by have:=HE0.o;omega)));clear HX HY;go_wp2_with fail;exact⟨⟨k+1,Z,by go_num,Zy.o,Sz⟩,by simp[intOf];omega⟩
      ·rw[b_ e0,v8 e1]at Ge;have y5:Hid (n9=false):=O (by rw[HR.o];exact Hm.o (by rw[Ge.o];rfl));have A_:((x.length:Int)==0)=true:=by rw[beq_iff_eq];omega
       have z_:((k:Int)==(ls.length:Int) - 1)=false:=by rw[Of];omega
       clear e0 e1;go_wp2_with fail;refine Zc.o.mono ?_;rintro r w4 ⟨rfl,t4⟩;have Il:=O (Q8.o.Y t4);have p5:=((jT.o.z7 (HT.o.Y t4) (by simp)).cell 1).trans rfl;clear t4 p4;go_wp2_with fail;go_ret;exact⟨v9 (by rw[y5.o]),Il.o⟩
     ·by_cases e1:k+1=ls.length
      ·rw[v8 e0,b_ e1]at Ge;have y5:Hid (n9=false):=O (by rw[HR.o];exact Hm.o (by rw[Ge.o];rfl));have A_:((x.length:Int)==0)=false:=by rw[Of];omega
       have z_:(ls.length:Int) - 1=(k:Int):=by omega
       clear e0 e1;go_wp2_with fail;refine Zc.o.mono ?_;rintro r w4 ⟨rfl,t4⟩;have Il:=O (Q8.o.Y t4);have p5:=((jT.o.z7 (HT.o.Y t4) (by simp)).cell 1).trans rfl;clear t4 p4;go_wp2_with fail;go_ret;exact⟨v9 (by rw[y5.o]),Il.o⟩
      ·rw[v8 e0,v8 e1]at Ge;simp only[BEq.rfl,Z4]at Ge;have A_:((x.length:Int)==0)=false:=by rw[Of];omega
       have z_:((k:Int)==(ls.length:Int) - 1)=false:=by rw[Of];omega
       clear e0 e1;go_wp2_with fail;refine Zc.o.mono ?_;rintro r w4 ⟨rfl,t4⟩;have Il:=O (HT.o.Y t4);have qe0:=O (Q8.o.Y t4);have GA:=O t4;have GD:=p7 (fun W t=>bK.o W (t4.Y t));have p5:=((jT.o.z7 (HT.o.Y t4) (by simp)).cell 1).trans rfl;clear t4 p4;go_wp2_with fail;clear p5;generalize wr=wz at*;go_loopw [5] (fun ti wq=>C9 (fun y=>xs.contains y.a) w4 x ti wq) (fun ti _=>x.length - (intOf ti).toNat)
       case atStart=>exact⟨0,by omega,rfl,z8 _ _,O (fun j y h=>by omega)⟩
       case round=>
        obtain⟨m,hm,rfl,qV,HY⟩:=hrel;have Zy:=O (Il.o.Y qV);have yH:=O (qe0.o.Y qV);have HB5:=p7 (fun W t=>((jT.o.z7 (Zy.o.Y t) (by simp)).cell 0).trans rfl);by_cases DQ:m<x.length
        ·have FD:(m:Int)< (x.length:Int):=by omega
         have tj:wrap64 ((m:Int)+1)=(m:Int)+1:=by unfold wrap64;omega
         have hp:=GD.o wr qV;obtain⟨b3,zj4,rfl,WU⟩:=hp.addr DQ;have Ko:=p7 (fun W t=>(Q0.at_ (hp.q8 t) DQ).1);have HH:=p7 (fun W t=>Vn.o W (yH.o.Y t) x[m].a);have HBA:Hid (xs.contains x[m].a=false→n9=false):=O (fun e=>by rw[HR.o];exact Hm.o (by rw[Ge.o,kK];exact⟨_,k8 DQ,by rw[e];simp⟩));have W7:Hid (xs.contains x[m].a=true→ ∀(j:Nat) y,j<m+1→x[j]? =some y→xs.contains y.a=true):=O (fun e=>X7 (good:=fun y:Cx=>xs.contains y.a) HY.o DQ e);have XH:=O qV;generalize xs.contains x[m].a=qv at*;generalize x[m].a=ya at*;clear hp WU HY qV HX;go_wp2_with fail;refine wp_region_held_drew (S:=fun W=>z6 [] wr W) (by kernel_rfl) (z8 _ _).drew (fun hS=> ?_);refine kw 0 hS ?_;refine kw 1 hS ?_ (hy:=by intro W m7;have e0:=HB5.o W m7;go_simp<;>rfl);refine kw 2 hS ?_;refine kw 3 hS ?_;refine kw 4 hS ?_;refine kw 5 hS ?_;refine kw 6 hS ?_ (hy:=by intro W m7;have ca:=Ko.o W m7;go_simp<;>rfl);refine s8 7 rfl (fun K hK=> ?_);go_simp;refine(HH.o _ hS).mono ?_;rintro r w6 ⟨rfl,t6⟩;have p8:=hS.Y t6;go_wp2_with fail;refine zk6 hK p8 ?_;clear hK K;refine s8 8 rfl (fun K hK=> ?_);go_simp;refine zk6 hK p8 ?_;clear hK K;refine wpAnyH_done (by kernel_rfl) ?_ _;have Bq:=O p8;clear hS p8 t6
         cases qv with
         | false=>
          have y5:=O (HBA.o (by first | rfl | trivial));go_wp2_with fail;go_ret;exact⟨v9 (by rw[y5.o]),yH.o.Y Bq.o⟩
         | true=>
          have Sz:=O (W7.o (by first | rfl | trivial));go_wp2_with fail;(try rw[tj]);exact⟨⟨m+1,DQ,by go_num,XH.o.Y Bq.o,Sz⟩,by simp[intOf];omega⟩
        ·have FD: ¬(m:Int)< (x.length:Int):=by omega
         have Sz:=O (Uw HX.o (by rw[Ge.o];exact U8 HY.o (by omega)));clear HX HY qV;go_wp2_with fail;exact⟨⟨k+1,Z,by go_num,Zy.o,Sz⟩,by simp[intOf];omega⟩
   ·have j1: ¬(k:Int)< (ls.length:Int):=by omega
    have gZ:Hid (n9=true):=O (by rw[HR.o];exact yx HX.o (by omega));clear HX ht;go_wp2_with fail;go_ret;exact⟨v9 (by rw[gZ.o]),Q8.o⟩
end Go.Proofs.YtlhlmcohdkkjpaaGreatDoor
