/- The document: Valid of layer 17, joined. -/
import Derived.Test.YtlhlmcohdkkjpaaGreatDoorCd6
import Derived.Test.YtlhlmcohdkkjpaaGreatDoorCb32
import Derived.Test.YtlhlmcohdkkjpaaGreatDoorCb11
set_option linter.all false
set_option maxHeartbeats 32000000
set_option maxRecDepth 100000
namespace Go.Proofs.YtlhlmcohdkkjpaaGreatDoor
open Go.RowKit
theorem JH:RV:=fun p VD VP VL VC w h hl=>
 lq p VD VP VL VC w h hl (fun W t=>Zq p.R VP VL VC W (h.pr.q8 t) (h.ld.q8 t) (h.cp.q8 t) hl.pr hl.ld hl.cp)
theorem zZ {p:Px}(h:Gn p 8 40=true):P0 p:=by
 unfold Gn at h;simp only[p9,E0]at h;obtain⟨h0,h1,h2,h3,h4⟩:=h;refine⟨by omega,fun x hx=> ?_,by omega,by omega,by omega⟩;have:x∈p.D.take 600:=by rw[N2 (by omega)];exact hx
 have:=U9 (Z6.1 h0 x this);omega
theorem qd (p:Px)(VD VP VL VC:Value)(w:World)(h:K3 w VD VP VL VC p):Calls Tryz.prog 4 #[.agg #[VD,VP,VL,VC]] w fun r w'=>r= .returned (.bool (Gn p 8 40))∧z6 [] w w':=by
 have HS:=p7 (fun W t=>qx p VD VP VL VC 8 40 W (h.q8 t));obtain⟨AD,cD,rfl,-,-⟩:=h.d.form;obtain⟨AP,cP,rfl⟩:=h.pr.form;obtain⟨AL,cL,rfl⟩:=h.ld.form;obtain⟨AC,cC,rfl⟩:=h.cp.form;have b0:=j4.new w 29 #[.slice AD p.D.length cD,.slice AP p.R.P.length cP,.slice AL p.R.L.length cL,.slice AC p.R.C.length cC];have t0:=(z8 [] w).alloc (.cells #[.slice AD p.D.length cD,.slice AP p.R.P.length cP,.slice AL p.R.L.length cL,.slice AC p.R.C.length cC] 29);obtain⟨c0,c1,c2,c3⟩:=b0.F2;have m9:=O t0;clear h b0 t0;generalize Gn p 8 40=n9 at*;go_enter Tryz.func4,Tryz.ntmps4;go_wp2_with fail;refine(HS.o _ m9.o).mono ?_;rintro r w1 ⟨rfl,t1⟩;have J6:=O (m9.o.Y t1);clear t1;go_wp2_with fail;go_ret;exact⟨rfl,J6.o⟩
theorem TJ (p:Px)(VD VP VL VC VS VA VY VM:Value)(xs:List Int)(a:ES)(w:World)(h:K3 w VD VP VL VC p)(jO:Y1 w)(hS:e8 w VS xs)(hA:yQ w VA VY VM a)(hK: ∀W,z6 [] w W→Calls Tryz.prog 5 #[] W fun r w'=>r= .returned (.bool true)∧z6 [] W w'):Calls Tryz.prog 3 #[.agg #[VD,VP,VL,VC],VS,.agg #[.int .i64 a.k,VA,VY,VM,.int .i64 a.st]] w fun r w'=>r= .returned (.bool true)∧z6 [] w w':=by
 have EL:=O hK;have HSM:=p7 (fun W t=>qd p VD VP VL VC W (h.q8 t));have HAC:=O (fun(hl:P0 p) (Ks:xs.length≤100000) (wW:GO a) (W:World) (t:z6 [] w W)=>wP p VD VP VL VC VS VA VY VM xs a W (h.q8 t) hl (jO.q8 t) (hS.q8 t) Ks (hA.q8 t) wW);have HRT:=O (fun(hl:P0 p) (Ks:xs.length≤100000) (wW:GO a) (W:World) (t:z6 [] w W)=>lh JH p VD VP VL VC VS VA VY VM xs a W (h.q8 t) hl (hS.q8 t) Ks (hA.q8 t) wW);have HRV:=O (fun(hl:P0 p) (W:World) (t:z6 [] w W)=>JH p VD VP VL VC W (h.q8 t) hl);have Q9:=O (fun(hl:P0 p) (W:World) (t:z6 [] w W)=>iR p VD VP VL VC W (h.q8 t) hl.d);have HVS:=O (fun(Ks:xs.length≤100000) (W:World) (t:z6 [] w W)=>Ay VS xs W (hS.q8 t) Ks);have xB:=O (fun(Ks:xs.length≤100000) (W:World) (t:z6 [] w W) (vb:Value) (hb:e8 W vb (l5 p.D))=>fE VS vb xs (l5 p.D) W (hS.q8 t) hb Ks);have Rm:=p7 (fun W t=>hA.m.q8 t);obtain⟨AD,cD,rfl,-,-⟩:=h.d.form;obtain⟨AP,cP,rfl⟩:=h.pr.form;obtain⟨AL,cL,rfl⟩:=h.ld.form;obtain⟨AC,cC,rfl⟩:=h.cp.form;obtain⟨AS,cS,rfl⟩:=hS.form;obtain⟨AA,cA,rfl⟩:=hA.l.form;obtain⟨AY,cY,rfl⟩:=hA.y.form;obtain⟨AM,cM,rfl⟩:=hA.m.form;have b0:=j4.new w 29 #[.slice AD p.D.length cD,.slice AP p.R.P.length cP,.slice AL p.R.L.length cL,.slice AC p.R.C.length cC];have t0:=((z8 [] w).alloc (.cells #[.slice AD p.D.length cD,.slice AP p.R.P.length cP,.slice AL p.R.L.length cL,.slice AC p.R.C.length cC] 29)).alloc (.cells #[.int .i64 a.k,.slice AA a.l.length cA,.slice AY a.ys.length cY,.slice AM a.ls.length cM,.int .i64 a.st] 37);have b1:=j4.new (w.alloc (.cells #[.slice AD p.D.length cD,.slice AP p.R.P.length cP,.slice AL p.R.L.length cL,.slice AC p.R.C.length cC] 29)) 37 #[.int .i64 a.k,.slice AA a.l.length cA,.slice AY a.ys.length cY,.slice AM a.ls.length cM,.int .i64 a.st];have b2:=b0.alloc (.cells #[.int .i64 a.k,.slice AA a.l.length cA,.slice AY a.ys.length cY,.slice AM a.ls.length cM,.int .i64 a.st] 37);simp only[World.size_alloc]at b1;have HC:Hid (∀W',z6 [] ((w.alloc (.cells #[.slice AD p.D.length cD,.slice AP p.R.P.length cP,.slice AL p.R.L.length cL,.slice AC p.R.C.length cC] 29)).alloc (.cells #[.int .i64 a.k,.slice AA a.l.length cA,.slice AY a.ys.length cY,.slice AM a.ls.length cM,.int .i64 a.st] 37)) W'→(W'.cell? ⟨w.heap.size,0,none⟩=some (.slice AD p.D.length cD)∧W'.cell? ⟨w.heap.size,1,none⟩=some (.slice AP p.R.P.length cP)∧W'.cell? ⟨w.heap.size,2,none⟩=some (.slice AL p.R.L.length cL)∧W'.cell? ⟨w.heap.size,3,none⟩=some (.slice AC p.R.C.length cC))∧W'.cell? ⟨w.heap.size+1,0,none⟩=some (.int .i64 a.k)∧W'.cell? ⟨w.heap.size+1,1,none⟩=some (.slice AA a.l.length cA)∧W'.cell? ⟨w.heap.size+1,2,none⟩=some (.slice AY a.ys.length cY)∧W'.cell? ⟨w.heap.size+1,3,none⟩=some (.slice AM a.ls.length cM)∧W'.cell? ⟨w.heap.size+1,4,none⟩=some (.int .i64 a.st)):=O (fun W' t=>⟨⟨((b2.z7 t (by simp)).cell 0).trans rfl,((b2.z7 t (by simp)).cell 1).trans rfl,((b2.z7 t (by simp)).cell 2).trans rfl,((b2.z7 t (by simp)).cell 3).trans rfl⟩,((b1.z7 t (by simp)).cell 0).trans rfl,((b1.z7 t (by simp)).cell 1).trans rfl,((b1.z7 t (by simp)).cell 2).trans rfl,((b1.z7 t (by simp)).cell 3).trans rfl,((b1.z7 t (by simp)).cell 4).trans rfl⟩);have m9:=O t0;clear h jO b0 b1 b2 t0 hS hA;go_enter Tryz.func3,Tryz.ntmps3;go_upto_region 1 with fail
 generalize (w.alloc _).alloc _=wa at HC m9⊢;obtain⟨⟨c0,c1,c2,c3⟩,-⟩:=HC.o _ (z8 [] _);go_wp2_with fail;refine(HSM.o _ m9.o).mono ?_;rintro r w1 ⟨rfl,t1⟩;have J6:=O (m9.o.Y t1);have Zf:=O t1;clear c0 c1 c2 c3 t1
 cases hsm:Gn p 8 40 with
 | false=>
  clear hsm;go_wp2_with fail;refine(EL.o _ (J6.o)).mono ?_;rintro r wk ⟨rfl,tk⟩;go_wp2_with fail;go_ret;exact⟨rfl,(J6.o).Y tk⟩
 | true=>
  have OZ:=O (zZ hsm);clear hsm;by_cases hx:20<xs.length
  ·have CE:(20:Int)< (xs.length:Int):=by omega
   go_wp2_with fail;refine(EL.o _ (J6.o)).mono ?_;rintro r wk ⟨rfl,tk⟩;go_wp2_with fail;go_ret;exact⟨rfl,(J6.o).Y tk⟩
  have CE: ¬(20:Int)< (xs.length:Int):=by omega
  obtain⟨-,a0,a1,a2,a3,a4⟩:=HC.o _ Zf.o;by_cases ha:20<a.l.length
  ·have ha':(20:Int)< (a.l.length:Int):=by omega
   go_wp2_with fail;refine(EL.o _ (J6.o)).mono ?_;rintro r wk ⟨rfl,tk⟩;go_wp2_with fail;go_ret;exact⟨rfl,(J6.o).Y tk⟩
  have ha': ¬(20:Int)< (a.l.length:Int):=by omega
  by_cases hy:20<a.ys.length
  ·have hy':(20:Int)< (a.ys.length:Int):=by omega
   go_wp2_with fail;refine(EL.o _ (J6.o)).mono ?_;rintro r wk ⟨rfl,tk⟩;go_wp2_with fail;go_ret;exact⟨rfl,(J6.o).Y tk⟩
  have hy': ¬(20:Int)< (a.ys.length:Int):=by omega
  by_cases hm:30<a.ls.length
  ·have hm':(30:Int)< (a.ls.length:Int):=by omega
   go_wp2_with fail;refine(EL.o _ (J6.o)).mono ?_;rintro r wk ⟨rfl,tk⟩;go_wp2_with fail;go_ret;exact⟨rfl,(J6.o).Y tk⟩
  have hm': ¬(30:Int)< (a.ls.length:Int):=by omega
  go_wp2_with fail;clear a0 a1 a2 a3 a4;go_loopw [7] (fun ti wr=>C9 (fun x:List Cx=>decide (x.length≤20)) w1 a.ls ti wr) (fun ti _=>a.ls.length - (intOf ti).toNat)
  case atStart=>exact⟨0,by omega,rfl,z8 _ _,O (fun j x h=>by omega)⟩
  case round=>
   obtain⟨k,hk,rfl,ht,HX⟩:=hrel;have HT:=O ht;have Q8:=O (J6.o.Y ht);have aD:=O (Zf.o.Y ht);obtain⟨⟨c0,c1,c2,c3⟩,a0,a1,a2,a3,a4⟩:=HC.o _ aD.o;by_cases Z:k<a.ls.length
   ·have j1:(k:Int)< (a.ls.length:Int):=by omega
    have Sr:wrap64 ((k:Int)+1)=(k:Int)+1:=by unfold wrap64;omega
    have Na:=Rm.o wr Q8.o;obtain⟨b2,Hn,u,rfl,U3,cu,Yy⟩:=Na.at_ Z;obtain⟨Au,X2,rfl⟩:=Yy.form;have W7:Hid (a.ls[k].length≤20→ ∀(j:Nat) x,j<k+1→a.ls[j]? =some x→(fun x:List Cx=>decide (x.length≤20)) x=true):=O (fun e=>X7 (good:=fun x:List Cx=>decide (x.length≤20)) HX.o Z (b_ e));generalize a.ls[k]=y at*;clear Na U3 Yy ht HX;by_cases hyl:20<y.length
    ·have zc3:(20:Int)< (y.length:Int):=by omega
     go_wp2_with fail;refine(EL.o _ (Q8.o)).mono ?_;rintro r wk ⟨rfl,tk⟩;go_wp2_with fail;go_ret;exact⟨rfl,(Q8.o).Y tk⟩
    ·have zc3: ¬(20:Int)< (y.length:Int):=by omega
     have Sz:=O (W7.o (by omega));go_wp2_with fail;(try rw[Sr]);exact⟨⟨k+1,by omega,by go_num,HT.o,Sz⟩,by simp[intOf];omega⟩
   ·have j1: ¬(k:Int)< (a.ls.length:Int):=by omega
    have HAL:Hid (GO a):=O ⟨by omega,by omega,by omega,fun x hx2=>by
     obtain⟨j,hj⟩:=Gk hx2;have:=U9 (HX.o j x (by have:=(U4.1 hj).1;omega) hj)
     omega⟩
    have uq:Hid (xs.length≤100000):=O (by omega);have zi8:=O (HAC.o OZ.o uq.o HAL.o _ Q8.o);clear HX ht hx CE ha ha' hy hy' hm hm';go_wp2_with fail;refine zi8.o.mono ?_;rintro r w2 ⟨t2,IE⟩;have B4:=O (Q8.o.Y t2);have Su:=O (aD.o.Y t2);clear c0 c1 c2 c3 a0 a1 a2 a3 a4 t2 Z j1 hk;obtain⟨⟨c0,c1,c2,c3⟩,-⟩:=HC.o _ Su.o;rcases IE with⟨e1,rfl⟩ | ⟨e1,e2,e3,rfl⟩ | ⟨e1,e2,e3,b,rfl,hb⟩
    ·have HE1:=O e1;clear e1;go_wp2_with fail;refine(HRV.o OZ.o _ B4.o).mono ?_;rintro r w3 ⟨rfl,t3⟩;have V3:=O (B4.o.Y t3);clear t3
     cases J3:J5 p with
     | false=>
      clear J3;go_wp2_with fail;refine(EL.o _ (V3.o)).mono ?_;rintro r wk ⟨rfl,tk⟩;go_wp2_with fail;go_ret;exact⟨rfl,(V3.o).Y tk⟩
     | true=>
      have HNS:Hid (Fa xs=false):=O (by have:=HE1.o;rw[J3]at this;exact this);clear J3;go_wp2_with fail;refine(HVS.o uq.o _ V3.o).mono ?_;rintro r w4 ⟨rfl,t4⟩;have Il:=O (V3.o.Y t4);clear t4;rw[HNS.o];go_wp2_with fail;refine(EL.o _ (Il.o)).mono ?_;rintro r wk ⟨rfl,tk⟩;go_wp2_with fail;go_ret;exact⟨rfl,(Il.o).Y tk⟩
    ·have HE:=O (And.intro e1 (And.intro e2 e3));clear e1 e2 e3;go_wp2_with fail;refine(HRV.o OZ.o _ B4.o).mono ?_;rintro r w3 ⟨rfl,t3⟩;have V3:=O (B4.o.Y t3);rw[HE.o.1];go_wp2_with fail;refine(HVS.o uq.o _ V3.o).mono ?_;rintro r w4 ⟨rfl,t4⟩;have Il:=O (V3.o.Y t4);have RT:=O (t3.Y t4);clear t3 t4;rw[HE.o.2.1];go_upto_region 11 with fail
     have HA5:=O (Su.o.Y RT.o);clear c0 c1 c2 c3;obtain⟨⟨c0,c1,c2,c3⟩,-⟩:=HC.o _ HA5.o;go_wp2_with fail;refine(Q9.o OZ.o _ Il.o).mono ?_;rintro r w5 ⟨A5,c5,rfl,OL,t5⟩;have K8:=O (Il.o.Y t5);have qf5:=O (xB.o uq.o _ K8.o _ OL);clear t5 OL;go_wp2_with fail;refine qf5.o.mono ?_;rintro r w6 ⟨rfl,t6⟩;have Vl:=O (K8.o.Y t6);clear t6;rw[show xs.all (fun n=>(l5 p.D).contains n)=false from HE.o.2.2];go_wp2_with fail;refine(EL.o _ (Vl.o)).mono ?_;rintro r wk ⟨rfl,tk⟩;go_wp2_with fail;go_ret;exact⟨rfl,(Vl.o).Y tk⟩
    ·have HE:=O (And.intro e1 (And.intro e2 e3));have HB:=O hb;clear e1 e2 e3 hb;go_wp2_with fail;refine(HRV.o OZ.o _ B4.o).mono ?_;rintro r w3 ⟨rfl,t3⟩;have V3:=O (B4.o.Y t3);rw[HE.o.1];go_wp2_with fail;refine(HVS.o uq.o _ V3.o).mono ?_;rintro r w4 ⟨rfl,t4⟩;have Il:=O (V3.o.Y t4);have RT:=O (t3.Y t4);clear t3 t4;rw[HE.o.2.1];go_upto_region 11 with fail
     have HA5:=O (Su.o.Y RT.o);clear c0 c1 c2 c3;obtain⟨⟨c0,c1,c2,c3⟩,-⟩:=HC.o _ HA5.o;go_wp2_with fail;refine(Q9.o OZ.o _ Il.o).mono ?_;rintro r w5 ⟨A5,c5,rfl,OL,t5⟩;have K8:=O (Il.o.Y t5);have zg6:=O (RT.o.Y t5);have qf5:=O (xB.o uq.o _ K8.o _ OL);clear t5 OL;go_wp2_with fail;refine qf5.o.mono ?_;rintro r w6 ⟨rfl,t6⟩;have Vl:=O (K8.o.Y t6);have HA6:=O (Su.o.Y (zg6.o.Y t6));clear t6 c0 c1 c2 c3;rw[show xs.all (fun n=>(l5 p.D).contains n)=true from HE.o.2.2];obtain⟨⟨c0,c1,c2,c3⟩,a0,a1,a2,a3,a4⟩:=HC.o _ HA6.o;have zh1:=O (HRT.o OZ.o uq.o HAL.o _ Vl.o);go_wp2_with fail;refine zh1.o.mono ?_;rintro r w7 ⟨t7,b2,rfl,U3⟩;have xN:=O (Vl.o.Y t7)
     have hbb:b=b2:=by
      have h1:=HB.o;have h2:b2=true↔o4 p xs a:=⟨fun e=>(U3.1 e).2,fun e=>U3.2 ⟨HE.o,e⟩⟩;cases b<;>cases b2
      ·rfl
      ·exact absurd (h1.2 (h2.1 rfl)) (by decide)
      ·exact absurd (h2.2 (h1.1 rfl)) (by decide)
      ·rfl
     subst hbb;clear t7 U3 c0 c1 c2 c3 a0 a1 a2 a3 a4
     cases b with
     | false=>
      go_wp2_with fail;refine(EL.o _ (xN.o)).mono ?_;rintro r wk ⟨rfl,tk⟩;go_wp2_with fail;go_ret;exact⟨rfl,(xN.o).Y tk⟩
     | true=>
      go_wp2_with fail;refine(EL.o _ (xN.o)).mono ?_;rintro r wk ⟨rfl,tk⟩;go_wp2_with fail;go_ret;exact⟨rfl,(xN.o).Y tk⟩
end Go.Proofs.YtlhlmcohdkkjpaaGreatDoor
