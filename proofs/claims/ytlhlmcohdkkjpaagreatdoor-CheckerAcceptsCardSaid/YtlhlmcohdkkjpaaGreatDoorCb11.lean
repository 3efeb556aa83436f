/- Layer 17, the document: ValidRules. -/
import Derived.Test.YtlhlmcohdkkjpaaGreatDoorZF
set_option linter.all false
set_option maxHeartbeats 64000000
set_option maxRecDepth 100000
namespace Go.Proofs.YtlhlmcohdkkjpaaGreatDoor
open Go.RowKit
variable{α:Type}
def Hq (good:α→Bool)(c:α→α→Int)(l:List α)(k:Nat):Prop:=(∀(j:Nat) x,j<k→l[j]? =some x→good x=true)∧ ∀(j:Nat) x y,j+1<k→l[j]? =some x→l[j+1]? =some y→c x y<0
section
variable {α:Type}{good:α→Bool}{c:α→α→Int}{l:List α}{k:Nat}
theorem Hq.zero:Hq good c l 0:=⟨fun j x h=>by omega,fun j x y h=>by omega⟩
theorem Hq.first (h0:0<l.length)(hg:good l[0]=true):Hq good c l 1:=⟨fun j x hj hx=>by
 obtain rfl:j=0:=by omega
 rw[j6 h0]at hx;injection hx with hx
 rw[←hx];exact hg,fun j x y h=>by omega⟩
theorem Hq.step (h:Hq good c l (k+1))(hk:k+1<l.length)(hg:good l[k+1]=true)(hc:c l[k] l[k+1]<0):Hq good c l (k+1+1):=by
 refine⟨fun j x hj hx=> ?_,fun j x y hj hx hy=> ?_⟩
 ·by_cases h2:j<k+1
  ·exact h.1 j x h2 hx
  ·obtain rfl:j=k+1:=by omega
   rw[j6 hk]at hx;injection hx with hx;rw[←hx];exact hg
 ·by_cases h2:j+1<k+1
  ·exact h.2 j x y h2 hx hy
  ·obtain rfl:j=k:=by omega
   rw[j6 (by omega)]at hx;rw[j6 hk]at hy;injection hx with hx;injection hy with hy;rw[←hx,←hy];exact hc
theorem Hq.all (h:Hq good c l k)(hk:l.length≤k):l.all good=true∧N8 c l=true:=by
 refine⟨Z6.2 (fun x hx=> ?_),D3.2 (fun j x y hx hy=>h.2 j x y (by have:=(U4.1 hy).1;omega) hx hy)⟩;obtain⟨j,hj⟩:=Gk hx;exact h.1 j x (by have:=(U4.1 hj).1;omega) hj
theorem yS (hk:k<l.length)(h:good l[k]=false):l.all good=false:=by
 rw[kK];exact⟨l[k],k8 hk,by simp[h]⟩
theorem oM (hk:k+1<l.length)(h: ¬c l[k] l[k+1]<0):N8 c l=false:=Dl (fun hi=>h (hi k _ _ (j6 (by omega)) (j6 hk)))
end
def JC (good:α→Bool)(c:α→α→Int)(w:World)(l:List α)(ti:Value)(wr:World):Prop:= ∃k:Nat,k≤l.length∧ti= .int .i64 (k:Int)∧z6 [] w wr∧Hid (Hq good c l k)
theorem Zq (x:Rx)(VP VL VC:Value)(w:World)(hP:o5 w VP x.P)(hL:o5 w VL x.L)(hC:T9 w VC x.C)(zd5:x.P.length≤100000)(zd6:x.L.length≤100000)(zd7:x.C.length≤100000):Calls Tryz.prog 24 #[.agg #[VP,VL,VC]] w fun r w'=>r= .returned (.bool (V1 x))∧z6 [] w w':=by
 have HS:V1 x=(decide (x.P.length≤4096)&&(x.P.all (fun x=>W8 x.a x.b x.c x.d x.e)&&(N8 U6 x.P&&(decide (x.L.length≤1024)&&(x.L.all (fun x=>W9 x.a x.b x.c x.d x.e)&&(N8 U7 x.L&&(decide (x.C.length≤1024)&&(x.C.all (fun x=>C5 x.a x.b x.c x.d)&&N8 F3 x.C)))))))):=rfl;have ZG:Hid (x.P.all (fun x=>W8 x.a x.b x.c x.d x.e)=false∨N8 U6 x.P=false→V1 x=false):=O (fun h=>by rw[HS];rcases h with h | h<;>simp[h]);have ZH:Hid (x.L.all (fun x=>W9 x.a x.b x.c x.d x.e)=false∨N8 U7 x.L=false→V1 x=false):=O (fun h=>by rw[HS];rcases h with h | h<;>simp[h]);have ZI:Hid (x.C.all (fun x=>C5 x.a x.b x.c x.d)=false∨N8 F3 x.C=false→V1 x=false):=O (fun h=>by rw[HS];rcases h with h | h<;>simp[h])
 have Zo:Hid (¬(x.P.length≤4096∧x.L.length≤1024∧x.C.length≤1024)→V1 x=false):=O (fun h=>by
  rw[HS];by_cases h1:x.P.length≤4096
  ·by_cases h2:x.L.length≤1024
   ·by_cases h3:x.C.length≤1024
    ·exact absurd ⟨h1,h2,h3⟩ h
    ·simp[h3]
   ·simp[h2]
  ·simp[h1])
 have Y7:Hid (x.P.length≤4096∧x.L.length≤1024∧x.C.length≤1024→(x.P.all (fun x=>W8 x.a x.b x.c x.d x.e)=true∧N8 U6 x.P=true)→(x.L.all (fun x=>W9 x.a x.b x.c x.d x.e)=true∧N8 U7 x.L=true)→(x.C.all (fun x=>C5 x.a x.b x.c x.d)=true∧N8 F3 x.C=true)→V1 x=true):=O (fun h1 h2 h3 h4=>by rw[HS];simp[h1.1,h1.2.1,h1.2.2,h2.1,h2.2,h3.1,h3.2,h4.1,h4.2]);clear HS;obtain⟨AP,cP,rfl⟩:=hP.form;obtain⟨AL,cL,rfl⟩:=hL.form;obtain⟨AC,cC,rfl⟩:=hC.form;have HP:=O (fun(W:World) (t:z6 [] w W)=>hP.q8 t);have HL:=O (fun(W:World) (t:z6 [] w W)=>hL.q8 t);have HC:=O (fun(W:World) (t:z6 [] w W)=>hC.q8 t);have b0:=j4.new w 27 #[.slice AP x.P.length cP,.slice AL x.L.length cL,.slice AC x.C.length cC];have o6:z6 [] w (w.alloc (.cells #[.slice AP x.P.length cP,.slice AL x.L.length cL,.slice AC x.C.length cC] 27)):=(z8 [] w).alloc _;have EH:Hid (∀W',z6 [] (w.alloc (.cells #[.slice AP x.P.length cP,.slice AL x.L.length cL,.slice AC x.C.length cC] 27)) W'→W'.cell? ⟨w.heap.size,0,none⟩=some (.slice AP x.P.length cP)∧W'.cell? ⟨w.heap.size,1,none⟩=some (.slice AL x.L.length cL)∧W'.cell? ⟨w.heap.size,2,none⟩=some (.slice AC x.C.length cC)):=O (fun W' t=>⟨((b0.z7 t (by simp)).cell 0).trans rfl,((b0.z7 t (by simp)).cell 1).trans rfl,((b0.z7 t (by simp)).cell 2).trans rfl⟩);have m9:=O o6;clear b0 o6 hP hL hC;generalize V1 x=n9 at*;by_cases hlen:x.P.length≤4096∧x.L.length≤1024∧x.C.length≤1024;rotate_left
 ·have y5:=O (Zo.o hlen);generalize x.P.length=nP at*;generalize x.L.length=nL at*;generalize x.C.length=nC at*;by_cases q1:nP≤4096
  ·have VO:(nP:Int)≤4096:=by omega
   by_cases q2:nL≤1024
   ·have ZQ:(nL:Int)≤1024:=by omega
    have q3: ¬(nC:Int)≤1024:=by omega
    go_enter Tryz.func24,Tryz.ntmps24;go_wp2_with fail;go_ret;exact⟨v9 (by rw[y5.o]),m9.o⟩
   ·have ZQ: ¬(nL:Int)≤1024:=by omega
    go_enter Tryz.func24,Tryz.ntmps24;go_wp2_with fail;go_ret;exact⟨v9 (by rw[y5.o]),m9.o⟩
  ·have VO: ¬(nP:Int)≤4096:=by omega
   go_enter Tryz.func24,Tryz.ntmps24;go_wp2_with fail;go_ret;exact⟨v9 (by rw[y5.o]),m9.o⟩
 have GN:=O (Y7.o hlen);obtain⟨q1,q2,q3⟩:=hlen;have VO:(x.P.length:Int)≤4096:=by omega
 have ZQ:(x.L.length:Int)≤1024:=by omega
 have q3':(x.C.length:Int)≤1024:=by omega
 clear Y7 Zo;go_enter Tryz.func24,Tryz.ntmps24;go_wp2_with fail;clear VO ZQ q3' q1 q2 q3;generalize El:w.alloc (.cells #[.slice AP x.P.length cP,.slice AL x.L.length cL,.slice AC x.C.length cC] 27)=w0 at*;clear El;generalize w.heap.size=g at*;have D6:=O (z8 [] w0);go_loopw [3] (fun ti wr=>JC (fun x=>W8 x.a x.b x.c x.d x.e) U6 w0 x.P ti wr) (fun ti _=>x.P.length - (intOf ti).toNat)
 case atStart=>exact⟨0,by omega,rfl,D6.o,O Hq.zero⟩
 case round=>
  clear D6;obtain⟨k,hk,rfl,ht,HX⟩:=hrel;obtain⟨r0,r1,r2⟩:=EH.o wr ht;by_cases Z:k<x.P.length
  ·have j1:(k:Int)< (x.P.length:Int):=by omega
   have hv:=HP.o wr (m9.o.Y ht);obtain⟨b,off,rfl,hb⟩:=hv.addr Z;obtain⟨ca,cb,cc,cd,ce⟩:=o5.at_ hv Z;have E4:Hid ((fun x=>W8 x.a x.b x.c x.d x.e) x.P[k]=false→n9=false):=O (fun h=>ZG.o (Or.inl (yS Z h)));have Fw:=ht.alloc (.cells #[.int .i64 x.P[k].a,.int .i64 x.P[k].b,.int .i64 x.P[k].c,.int .i64 x.P[k].d,.int .i64 x.P[k].e] 79);have bx:=j4.new wr 79 #[.int .i64 x.P[k].a,.int .i64 x.P[k].b,.int .i64 x.P[k].c,.int .i64 x.P[k].d,.int .i64 x.P[k].e];have V0:=O Fw;have PA:Hid (x.P[k].Fit):=O (hv.2 _ (k8 Z));have hlen:=zd5;have qO:=O hv;have N6:=O bx;have HT:=O ht
   have jQ:Hid (∀y,x.P[k]=y→((fun x=>W8 x.a x.b x.c x.d x.e) y=true→k=0→Hq (fun x=>W8 x.a x.b x.c x.d x.e) U6 x.P 1)):=O (fun y e hg h0=>by
    subst h0
    exact Hq.first Z (by rw[e];exact hg))
   have vo:Hid (∀m,k=m+1→ ∀(hm:m<x.P.length),((fun x=>W8 x.a x.b x.c x.d x.e) x.P[k]=true→U6 x.P[m] x.P[k]<0→Hq (fun x=>W8 x.a x.b x.c x.d x.e) U6 x.P (k+1))∧(¬U6 x.P[m] x.P[k]<0→n9=false)):=O (fun m hm Ja=>by
    subst hm
    exact⟨fun hg hc=>HX.o.step Z hg hc,fun hc=>ZG.o (Or.inr (oM Z hc))⟩)
   clear Fw ht bx hv HX;have EP:Hid (∀m,k=m+1→ ∀(hm:m<x.P.length),x.P[m].Fit∧wr.cell? ⟨b,off+m*5,none⟩=some (.int .i64 x.P[m].a)∧wr.cell? ⟨b,off+m*5+1,none⟩=some (.int .i64 x.P[m].b)∧wr.cell? ⟨b,off+m*5+1+1,none⟩=some (.int .i64 x.P[m].c)∧wr.cell? ⟨b,off+m*5+1+1+1,none⟩=some (.int .i64 x.P[m].d)∧wr.cell? ⟨b,off+m*5+1+1+1+1,none⟩=some (.int .i64 x.P[m].e)):=O (fun m hm Ja=>⟨qO.o.2 _ (k8 Ja),o5.at_ qO.o Ja⟩);have N5:=O (jQ.o _ rfl);clear jQ qO;generalize CC:x.P[k]=xx at*;clear CC;obtain⟨xa,xb,xc,xd,xe⟩:=xx;simp only at ca cb cc cd ce E4 V0 N6 N5 PA vo;by_cases h0:K2 xa=true;rotate_left
   ·as_aux_lemma=>
     have y5:=O (E4.o (by
      show W8 xa xb xc xd xe=false;unfold W8
      simp[h0]))
     have hf0:K2 xa=false:=by simpa using h0
     have Co:=O (fun W=>hf0 ▸ j3 xa W);go_wp2_with fail;go_quiet ((first | (go_at_call 25;first | exact x8 (Co.o _) | exact x8 (Nd.o _)) | (go_at_call 50;exact x8 (Zz.o _))));go_wp2_with fail;go_ret;exact⟨v9 (by rw[y5.o]),m9.o.Y (V0.o.drewN _)⟩
   by_cases h1:K2 xb=true;rotate_left
   ·as_aux_lemma=>
     have y5:=O (E4.o (by
      show W8 xa xb xc xd xe=false;unfold W8
      simp[h1]))
     have Co:=O (fun W=>h0 ▸ j3 xa W);have WS:K2 xb=false:=by simpa using h1
     have Nd:=O (fun W=>WS ▸ j3 xb W);go_wp2_with fail;go_quiet ((first | (go_at_call 25;first | exact x8 (Co.o _) | exact x8 (Nd.o _)) | (go_at_call 50;exact x8 (Zz.o _))));go_wp2_with fail;go_ret;exact⟨v9 (by rw[y5.o]),m9.o.Y (V0.o.drewN _)⟩
   by_cases h2:xa<xb;rotate_left
   ·as_aux_lemma=>
     have y5:=O (E4.o (by
      show W8 xa xb xc xd xe=false;unfold W8
      simp[h2]))
     have d2:decide (xb≤xa)=true:=b_ (by omega);have Co:=O (fun W=>h0 ▸ j3 xa W);have Nd:=O (fun W=>h1 ▸ j3 xb W);go_wp2_with fail;go_quiet ((first | (go_at_call 25;first | exact x8 (Co.o _) | exact x8 (Nd.o _)) | (go_at_call 50;exact x8 (Zz.o _))));go_wp2_with fail;go_ret;exact⟨v9 (by rw[y5.o]),m9.o.Y (V0.o.drewN _)⟩
   by_cases h3: -1≤xc;rotate_left
   ·as_aux_lemma=>
     have y5:=O (E4.o (by
      show W8 xa xb xc xd xe=false;unfold W8
      simp[Jd,h3]))
     have d2:decide (xb≤xa)=false:=v8 (by omega);have d3:decide (xc< -1)=true:=b_ (by omega);have Co:=O (fun W=>h0 ▸ j3 xa W);have Nd:=O (fun W=>h1 ▸ j3 xb W);go_wp2_with fail;go_quiet ((first | (go_at_call 25;first | exact x8 (Co.o _) | exact x8 (Nd.o _)) | (go_at_call 50;exact x8 (Zz.o _))));go_wp2_with fail;go_ret;exact⟨v9 (by rw[y5.o]),m9.o.Y (V0.o.drewN _)⟩
   by_cases h4:xc≤1;rotate_left
   ·as_aux_lemma=>
     have y5:=O (E4.o (by
      show W8 xa xb xc xd xe=false;unfold W8
      simp[Jd,h4]))
     have d2:decide (xb≤xa)=false:=v8 (by omega);have d3:decide (xc< -1)=false:=v8 (by omega);have d4:decide (1<xc)=true:=b_ (by omega);have Co:=O (fun W=>h0 ▸ j3 xa W);have Nd:=O (fun W=>h1 ▸ j3 xb W);go_wp2_with fail;go_quiet ((first | (go_at_call 25;first | exact x8 (Co.o _) | exact x8 (Nd.o _)) | (go_at_call 50;exact x8 (Zz.o _))));go_wp2_with fail;go_ret;exact⟨v9 (by rw[y5.o]),m9.o.Y (V0.o.drewN _)⟩
   by_cases h5:Da xd xe=true;rotate_left
   ·as_aux_lemma=>
     have y5:=O (E4.o (by
      show W8 xa xb xc xd xe=false;unfold W8
      simp[h5]))
     have d2:decide (xb≤xa)=false:=v8 (by omega);have d3:decide (xc< -1)=false:=v8 (by omega);have d4:decide (1<xc)=false:=v8 (by omega);have Co:=O (fun W=>h0 ▸ j3 xa W);have Nd:=O (fun W=>h1 ▸ j3 xb W);have hf5:Da xd xe=false:=by simpa using h5
     have Zz:=O (fun W=>hf5 ▸ Jv xd xe W);go_wp2_with fail;go_quiet ((first | (go_at_call 25;first | exact x8 (Co.o _) | exact x8 (Nd.o _)) | (go_at_call 50;exact x8 (Zz.o _))));go_wp2_with fail;go_ret;exact⟨v9 (by rw[y5.o]),m9.o.Y (V0.o.drewN _)⟩
   have HG:Hid (W8 xa xb xc xd xe=true):=O (by
    unfold W8
    simp[Jd,h0,h1,h2,h3,h4,h5])
   have d2:decide (xb≤xa)=false:=v8 (by omega);have d3:decide (xc< -1)=false:=v8 (by omega);have d4:decide (1<xc)=false:=v8 (by omega);have Co:=O (fun W=>h0 ▸ j3 xa W);have Nd:=O (fun W=>h1 ▸ j3 xb W);have Zz:=O (fun W=>h5 ▸ Jv xd xe W);rcases Tu k with Em | Em
   ·clear vo EP;subst Em;simp only[Nat.zero_mul,Jp]at ca cb cc cd ce
    as_aux_lemma=>
     go_wp2_with fail;go_quiet ((first | (go_at_call 25;first | exact x8 (Co.o _) | exact x8 (Nd.o _)) | (go_at_call 50;exact x8 (Zz.o _))));go_wp2_with fail;go_roundw
     case rel=>exact⟨1,by omega,by go_num,V0.o.drewN _,O (N5.o HG.o (by trivial))⟩
     case measure=>simp[intOf];omega
   ·obtain⟨m,rfl⟩: ∃m,k=m+1:=⟨k - 1,by omega⟩;have Kt:m<x.P.length:=by omega
    have bX:=O (vo.o m rfl Kt);obtain⟨WR,ea,eb,ec,ed,ee⟩:=EP.o m rfl Kt;have XR:=O WR;clear vo EP WR;have Q7:(m:Int)+1< (x.P.length:Int):=by omega
    have Dw:(m:Int)< (x.P.length:Int):=by omega
    have nE:(0:Int)≤(m:Int)+1:=by omega
    have Qm:(0:Int)< (m:Int)+1:=by omega
    have tj:IntKind.i64.wrap (m:Int)=(m:Int):=IntWalk.i64_in _ (by omega);generalize hye:x.P[m]=yy at*;clear hye;obtain⟨ya,yb,yc,yd,ye⟩:=yy;simp only at ea eb ec ed ee bX XR
    as_aux_lemma=>
     have HK:Hid (∀W',z6 [] (wr.alloc (.cells #[.int .i64 xa,.int .i64 xb,.int .i64 xc,.int .i64 xd,.int .i64 xe] 79)) W'→W'.cell? ⟨g,0,none⟩=some (.slice (some ⟨b,off,none⟩) x.P.length cP)∧(W'.cell? ⟨wr.heap.size,0,none⟩=some (.int .i64 xa)∧W'.cell? ⟨wr.heap.size,1,none⟩=some (.int .i64 xb)∧W'.cell? ⟨wr.heap.size,2,none⟩=some (.int .i64 xc)∧W'.cell? ⟨wr.heap.size,3,none⟩=some (.int .i64 xd)∧W'.cell? ⟨wr.heap.size,4,none⟩=some (.int .i64 xe))∧W'.cell? ⟨b,off+m*5,none⟩=some (.int .i64 ya)∧W'.cell? ⟨b,off+m*5+1,none⟩=some (.int .i64 yb)∧W'.cell? ⟨b,off+m*5+1+1,none⟩=some (.int .i64 yc)∧W'.cell? ⟨b,off+m*5+1+1+1,none⟩=some (.int .i64 yd)∧W'.cell? ⟨b,off+m*5+1+1+1+1,none⟩=some (.int .i64 ye)):=O (fun W' t=>by
      have b4:=N6.o.z7 t (by simp);have tt:=((z8 [] wr).alloc (.cells #[.int .i64 xa,.int .i64 xb,.int .i64 xc,.int .i64 xd,.int .i64 xe] 79)).Y t;obtain⟨q0,q1,q2⟩:=EH.o W' (HT.o.Y tt)
      refine⟨q0,⟨(b4.cell 0).trans rfl,(b4.cell 1).trans rfl,(b4.cell 2).trans rfl,(b4.cell 3).trans rfl,(b4.cell 4).trans rfl⟩,(tt.cell (p:=⟨b,off+m*5,none⟩) hb (by simp)).trans ea,(tt.cell (p:=⟨b,off+m*5+1,none⟩) hb (by simp)).trans eb,(tt.cell (p:=⟨b,off+m*5+1+1,none⟩) hb (by simp)).trans ec,(tt.cell (p:=⟨b,off+m*5+1+1+1,none⟩) hb (by simp)).trans ed,(tt.cell (p:=⟨b,off+m*5+1+1+1+1,none⟩) hb (by simp)).trans ee⟩)
     have bK:=O (fun W=>fI xa xb xc xd xe W (by have h:=PA.o;simpa[Q5.Fit]using h));have XK:=O (fun W=>fI ya yb yc yd ye W (by have h:=XR.o;simpa[Q5.Fit]using h));have hQ:=z8 [] (wr.alloc (.cells #[.int .i64 xa,.int .i64 xb,.int .i64 xc,.int .i64 xd,.int .i64 xe] 79));have hq:=rm ⟨ya,yb,yc,yd,ye⟩ ⟨xa,xb,xc,xd,xe⟩;simp only at hq
     have Rm:Hid (∀W A c A' c',Hid (e8 W (.slice A 5 c) [ya,yb,yc,yd,ye])→Hid (e8 W (.slice A' 5 c') [xa,xb,xc,xd,xe])→Calls Tryz.prog 51 #[.slice A 5 c,.slice A' 5 c'] W fun r w'=>r= .returned (.bool (decide (U6 ⟨ya,yb,yc,yd,ye⟩ ⟨xa,xb,xc,xd,xe⟩<0)))∧z6 [] W w'):=O (fun W A c A' c' h1 h2=>by
      have:=Wx _ _ _ _ W h1.o h2.o rfl (by simp)
      rwa [hq]at this)
     clear hq;generalize OI:decide (U6 ⟨ya,yb,yc,yd,ye⟩ ⟨xa,xb,xc,xd,xe⟩<0)=q at*;have XJ:=O OI;clear OI;go_wp2_with fail
     go_region_held3 (fun W'=>W'.cell? ⟨g,0,none⟩=some (.slice (some ⟨b,off,none⟩) x.P.length cP)∧(W'.cell? ⟨wr.heap.size,0,none⟩=some (.int .i64 xa)∧W'.cell? ⟨wr.heap.size,1,none⟩=some (.int .i64 xb)∧W'.cell? ⟨wr.heap.size,2,none⟩=some (.int .i64 xc)∧W'.cell? ⟨wr.heap.size,3,none⟩=some (.int .i64 xd)∧W'.cell? ⟨wr.heap.size,4,none⟩=some (.int .i64 xe))∧W'.cell? ⟨b,off+m*5,none⟩=some (.int .i64 ya)∧W'.cell? ⟨b,off+m*5+1,none⟩=some (.int .i64 yb)∧W'.cell? ⟨b,off+m*5+1+1,none⟩=some (.int .i64 yc)∧W'.cell? ⟨b,off+m*5+1+1+1,none⟩=some (.int .i64 yd)∧W'.cell? ⟨b,off+m*5+1+1+1+1,none⟩=some (.int .i64 ye)) (first | exact HK.o _ hQ | exact HK.o _ hQ.drew) (first
      | (go_at_call 25;first | (with_reducible refine(Co.o _).mono ?_;rintro r wz ⟨rfl,rfl⟩;(try dsimp only)) | (with_reducible refine(Nd.o _).mono ?_;rintro r wz ⟨rfl,rfl⟩;(try dsimp only)))
      | (go_at_call 50;with_reducible refine(Zz.o _).mono ?_;rintro r wz ⟨rfl,rfl⟩;(try dsimp only))
      | (go_at_call 52;first | (with_reducible refine(XK.o _).mono ?_;rintro r w2 ⟨A2,c2,rfl,Pk,V4⟩;(try dsimp only);replace hQ:=hQ.drew.Y V4;clear V4) | (with_reducible refine(bK.o _).mono ?_;rintro r w3 ⟨A3,c3,rfl,hn3,Rk⟩;(try dsimp only);replace hQ:=hQ.Y Rk;have V3:=O Rk;clear Rk))
      | (go_at_call 51;with_reducible refine(Rm.o _ _ _ _ _ (O (Pk.o.q8 V3.o)) hn3).mono ?_;rintro r w4 ⟨rfl,gO⟩;(try dsimp only);replace hQ:=hQ.Y gO;clear gO))
     have Q8:=O (V0.o.Y hQ);clear hQ HK bK XK Rm
     cases q with
     | true=>
      go_wp2_with fail;go_roundw
      case rel=>exact⟨m+1+1,by omega,by go_num,Q8.o,O (bX.o.1 HG.o (U9 XJ.o))⟩
      case measure=>simp[intOf];omega
     | false=>
      have y5:=O (bX.o.2 (by have:=Gt XJ.o;omega));go_wp2_with fail;go_ret;exact⟨v9 (by rw[y5.o]),m9.o.Y Q8.o⟩
  ·have j1: ¬(k:Int)< (x.P.length:Int):=by omega
   have zi1:=O (HX.o.all (by omega));have D6:=O ht;clear HX ht;go_wp2_with fail;clear r0 r1 r2;go_loopw [5] (fun ti wr=>JC (fun x=>W9 x.a x.b x.c x.d x.e) U7 w0 x.L ti wr) (fun ti _=>x.L.length - (intOf ti).toNat)
   case atStart=>exact⟨0,by omega,rfl,D6.o,O Hq.zero⟩
   case round=>
    clear D6;obtain⟨k,hk,rfl,ht,HX⟩:=hrel;obtain⟨r0,r1,r2⟩:=EH.o wr ht;by_cases Z:k<x.L.length
    ·have j1:(k:Int)< (x.L.length:Int):=by omega
     have hv:=HL.o wr (m9.o.Y ht);obtain⟨b,off,rfl,hb⟩:=hv.addr Z;obtain⟨ca,cb,cc,cd,ce⟩:=o5.at_ hv Z;have E4:Hid ((fun x=>W9 x.a x.b x.c x.d x.e) x.L[k]=false→n9=false):=O (fun h=>ZH.o (Or.inl (yS Z h)));have Fw:=ht.alloc (.cells #[.int .i64 x.L[k].a,.int .i64 x.L[k].b,.int .i64 x.L[k].c,.int .i64 x.L[k].d,.int .i64 x.L[k].e] 81);have bx:=j4.new wr 81 #[.int .i64 x.L[k].a,.int .i64 x.L[k].b,.int .i64 x.L[k].c,.int .i64 x.L[k].d,.int .i64 x.L[k].e];have V0:=O Fw;have PA:Hid (x.L[k].Fit):=O (hv.2 _ (k8 Z));have hlen:=zd6;have qO:=O hv;have N6:=O bx;have HT:=O ht
     have jQ:Hid (∀y,x.L[k]=y→((fun x=>W9 x.a x.b x.c x.d x.e) y=true→k=0→Hq (fun x=>W9 x.a x.b x.c x.d x.e) U7 x.L 1)):=O (fun y e hg h0=>by
      subst h0
      exact Hq.first Z (by rw[e];exact hg))
     have vo:Hid (∀m,k=m+1→ ∀(hm:m<x.L.length),((fun x=>W9 x.a x.b x.c x.d x.e) x.L[k]=true→U7 x.L[m] x.L[k]<0→Hq (fun x=>W9 x.a x.b x.c x.d x.e) U7 x.L (k+1))∧(¬U7 x.L[m] x.L[k]<0→n9=false)):=O (fun m hm Ja=>by
      subst hm
      exact⟨fun hg hc=>HX.o.step Z hg hc,fun hc=>ZH.o (Or.inr (oM Z hc))⟩)
     clear Fw ht bx hv HX;have EP:Hid (∀m,k=m+1→ ∀(hm:m<x.L.length),x.L[m].Fit∧wr.cell? ⟨b,off+m*5,none⟩=some (.int .i64 x.L[m].a)∧wr.cell? ⟨b,off+m*5+1,none⟩=some (.int .i64 x.L[m].b)∧wr.cell? ⟨b,off+m*5+1+1,none⟩=some (.int .i64 x.L[m].c)∧wr.cell? ⟨b,off+m*5+1+1+1,none⟩=some (.int .i64 x.L[m].d)∧wr.cell? ⟨b,off+m*5+1+1+1+1,none⟩=some (.int .i64 x.L[m].e)):=O (fun m hm Ja=>⟨qO.o.2 _ (k8 Ja),o5.at_ qO.o Ja⟩);have N5:=O (jQ.o _ rfl);clear jQ qO;generalize CC:x.L[k]=xx at*;clear CC;obtain⟨xa,xb,xc,xd,xe⟩:=xx;simp only at ca cb cc cd ce E4 V0 N6 N5 PA vo;by_cases h0:K2 xa=true;rotate_left
     ·as_aux_lemma=>
       have y5:=O (E4.o (by
        show W9 xa xb xc xd xe=false;unfold W9
        simp[h0]))
       have hf0:K2 xa=false:=by simpa using h0
       have Co:=O (fun W=>hf0 ▸ j3 xa W);go_wp2_with fail;go_quiet ((first | (go_at_call 25;first | exact x8 (Co.o _) | exact x8 (Nd.o _)) | (go_at_call 50;exact x8 (Zz.o _))));go_wp2_with fail;go_ret;exact⟨v9 (by rw[y5.o]),m9.o.Y (V0.o.drewN _)⟩
     by_cases h1:K2 xb=true;rotate_left
     ·as_aux_lemma=>
       have y5:=O (E4.o (by
        show W9 xa xb xc xd xe=false;unfold W9
        simp[h1]))
       have Co:=O (fun W=>h0 ▸ j3 xa W);have WS:K2 xb=false:=by simpa using h1
       have Nd:=O (fun W=>WS ▸ j3 xb W);go_wp2_with fail;go_quiet ((first | (go_at_call 25;first | exact x8 (Co.o _) | exact x8 (Nd.o _)) | (go_at_call 50;exact x8 (Zz.o _))));go_wp2_with fail;go_ret;exact⟨v9 (by rw[y5.o]),m9.o.Y (V0.o.drewN _)⟩
     by_cases h2:xa≠xb;rotate_left
     ·as_aux_lemma=>
       have y5:=O (E4.o (by
        show W9 xa xb xc xd xe=false;unfold W9
        simp[h2]))
       have d2:(xa==xb)=true:=by simpa using h2
       have Co:=O (fun W=>h0 ▸ j3 xa W);have Nd:=O (fun W=>h1 ▸ j3 xb W);go_wp2_with fail;go_quiet ((first | (go_at_call 25;first | exact x8 (Co.o _) | exact x8 (Nd.o _)) | (go_at_call 50;exact x8 (Zz.o _))));go_wp2_with fail;go_ret;exact⟨v9 (by rw[y5.o]),m9.o.Y (V0.o.drewN _)⟩
     by_cases h3:1≤xc;rotate_left
     ·as_aux_lemma=>
       have y5:=O (E4.o (by
        show W9 xa xb xc xd xe=false;unfold W9
        simp[Jd,h3]))
       have d2:(xa==xb)=false:=by simpa using h2
       have d3:decide (xc<1)=true:=b_ (by omega);have Co:=O (fun W=>h0 ▸ j3 xa W);have Nd:=O (fun W=>h1 ▸ j3 xb W);go_wp2_with fail;go_quiet ((first | (go_at_call 25;first | exact x8 (Co.o _) | exact x8 (Nd.o _)) | (go_at_call 50;exact x8 (Zz.o _))));go_wp2_with fail;go_ret;exact⟨v9 (by rw[y5.o]),m9.o.Y (V0.o.drewN _)⟩
     by_cases h4:xc≤1073741824;rotate_left
     ·as_aux_lemma=>
       have y5:=O (E4.o (by
        show W9 xa xb xc xd xe=false;unfold W9
        simp[Jd,h4]))
       have d2:(xa==xb)=false:=by simpa using h2
       have d3:decide (xc<1)=false:=v8 (by omega);have d4:decide (1073741824<xc)=true:=b_ (by omega);have Co:=O (fun W=>h0 ▸ j3 xa W);have Nd:=O (fun W=>h1 ▸ j3 xb W);go_wp2_with fail;go_quiet ((first | (go_at_call 25;first | exact x8 (Co.o _) | exact x8 (Nd.o _)) | (go_at_call 50;exact x8 (Zz.o _))));go_wp2_with fail;go_ret;exact⟨v9 (by rw[y5.o]),m9.o.Y (V0.o.drewN _)⟩
     by_cases h5:Da xd xe=true;rotate_left
     ·as_aux_lemma=>
       have y5:=O (E4.o (by
        show W9 xa xb xc xd xe=false;unfold W9
        simp[h5]))
       have d2:(xa==xb)=false:=by simpa using h2
       have d3:decide (xc<1)=false:=v8 (by omega);have d4:decide (1073741824<xc)=false:=v8 (by omega);have Co:=O (fun W=>h0 ▸ j3 xa W);have Nd:=O (fun W=>h1 ▸ j3 xb W);have hf5:Da xd xe=false:=by simpa using h5
       have Zz:=O (fun W=>hf5 ▸ Jv xd xe W);go_wp2_with fail;go_quiet ((first | (go_at_call 25;first | exact x8 (Co.o _) | exact x8 (Nd.o _)) | (go_at_call 50;exact x8 (Zz.o _))));go_wp2_with fail;go_ret;exact⟨v9 (by rw[y5.o]),m9.o.Y (V0.o.drewN _)⟩
     have HG:Hid (W9 xa xb xc xd xe=true):=O (by
      unfold W9
      simp[Jd,h0,h1,h2,h3,h4,h5])
     have d2:(xa==xb)=false:=by simpa using h2
     have d3:decide (xc<1)=false:=v8 (by omega);have d4:decide (1073741824<xc)=false:=v8 (by omega);have Co:=O (fun W=>h0 ▸ j3 xa W);have Nd:=O (fun W=>h1 ▸ j3 xb W);have Zz:=O (fun W=>h5 ▸ Jv xd xe W);rcases Tu k with Em | Em
     ·clear vo EP;subst Em;simp only[Nat.zero_mul,Jp]at ca cb cc cd ce
      as_aux_lemma=>
       go_wp2_with fail;go_quiet ((first | (go_at_call 25;first | exact x8 (Co.o _) | exact x8 (Nd.o _)) | (go_at_call 50;exact x8 (Zz.o _))));go_wp2_with fail;go_roundw
       case rel=>exact⟨1,by omega,by go_num,V0.o.drewN _,O (N5.o HG.o (by trivial))⟩
       case measure=>simp[intOf];omega
     ·obtain⟨m,rfl⟩: ∃m,k=m+1:=⟨k - 1,by omega⟩;have Kt:m<x.L.length:=by omega
      have bX:=O (vo.o m rfl Kt);obtain⟨WR,ea,eb,ec,ed,ee⟩:=EP.o m rfl Kt;have XR:=O WR;clear vo EP WR;have Q7:(m:Int)+1< (x.L.length:Int):=by omega
      have Dw:(m:Int)< (x.L.length:Int):=by omega
      have nE:(0:Int)≤(m:Int)+1:=by omega
      have Qm:(0:Int)< (m:Int)+1:=by omega
      have tj:IntKind.i64.wrap (m:Int)=(m:Int):=IntWalk.i64_in _ (by omega);generalize hye:x.L[m]=yy at*;clear hye;obtain⟨ya,yb,yc,yd,ye⟩:=yy;simp only at ea eb ec ed ee bX XR
      as_aux_lemma=>
       have HK:Hid (∀W',z6 [] (wr.alloc (.cells #[.int .i64 xa,.int .i64 xb,.int .i64 xc,.int .i64 xd,.int .i64 xe] 81)) W'→W'.cell? ⟨g,1,none⟩=some (.slice (some ⟨b,off,none⟩) x.L.length cL)∧(W'.cell? ⟨wr.heap.size,0,none⟩=some (.int .i64 xa)∧W'.cell? ⟨wr.heap.size,1,none⟩=some (.int .i64 xb)∧W'.cell? ⟨wr.heap.size,2,none⟩=some (.int .i64 xc)∧W'.cell? ⟨wr.heap.size,3,none⟩=some (.int .i64 xd)∧W'.cell? ⟨wr.heap.size,4,none⟩=some (.int .i64 xe))∧W'.cell? ⟨b,off+m*5,none⟩=some (.int .i64 ya)∧W'.cell? ⟨b,off+m*5+1,none⟩=some (.int .i64 yb)∧W'.cell? ⟨b,off+m*5+1+1,none⟩=some (.int .i64 yc)∧W'.cell? ⟨b,off+m*5+1+1+1,none⟩=some (.int .i64 yd)∧W'.cell? ⟨b,off+m*5+1+1+1+1,none⟩=some (.int .i64 ye)):=O (fun W' t=>by
        have b4:=N6.o.z7 t (by simp);have tt:=((z8 [] wr).alloc (.cells #[.int .i64 xa,.int .i64 xb,.int .i64 xc,.int .i64 xd,.int .i64 xe] 81)).Y t;obtain⟨q0,q1,q2⟩:=EH.o W' (HT.o.Y tt)
        refine⟨q1,⟨(b4.cell 0).trans rfl,(b4.cell 1).trans rfl,(b4.cell 2).trans rfl,(b4.cell 3).trans rfl,(b4.cell 4).trans rfl⟩,(tt.cell (p:=⟨b,off+m*5,none⟩) hb (by simp)).trans ea,(tt.cell (p:=⟨b,off+m*5+1,none⟩) hb (by simp)).trans eb,(tt.cell (p:=⟨b,off+m*5+1+1,none⟩) hb (by simp)).trans ec,(tt.cell (p:=⟨b,off+m*5+1+1+1,none⟩) hb (by simp)).trans ed,(tt.cell (p:=⟨b,off+m*5+1+1+1+1,none⟩) hb (by simp)).trans ee⟩)
       have bK:=O (fun W=>fQ xa xb xc xd xe W (by have h:=PA.o;simpa[Q5.Fit]using h));have XK:=O (fun W=>fQ ya yb yc yd ye W (by have h:=XR.o;simpa[Q5.Fit]using h));have hQ:=z8 [] (wr.alloc (.cells #[.int .i64 xa,.int .i64 xb,.int .i64 xc,.int .i64 xd,.int .i64 xe] 81));have hq:=rn ⟨ya,yb,yc,yd,ye⟩ ⟨xa,xb,xc,xd,xe⟩;simp only at hq
       have Rm:Hid (∀W A c A' c',Hid (e8 W (.slice A 5 c) [ya,yb,yc,yd,ye])→Hid (e8 W (.slice A' 5 c') [xa,xb,xc,xd,xe])→Calls Tryz.prog 51 #[.slice A 5 c,.slice A' 5 c'] W fun r w'=>r= .returned (.bool (decide (U7 ⟨ya,yb,yc,yd,ye⟩ ⟨xa,xb,xc,xd,xe⟩<0)))∧z6 [] W w'):=O (fun W A c A' c' h1 h2=>by
        have:=Wx _ _ _ _ W h1.o h2.o rfl (by simp)
        rwa [hq]at this)
       clear hq;generalize OI:decide (U7 ⟨ya,yb,yc,yd,ye⟩ ⟨xa,xb,xc,xd,xe⟩<0)=q at*;have XJ:=O OI;clear OI;go_wp2_with fail
       go_region_held3 (fun W'=>W'.cell? ⟨g,1,none⟩=some (.slice (some ⟨b,off,none⟩) x.L.length cL)∧(W'.cell? ⟨wr.heap.size,0,none⟩=some (.int .i64 xa)∧W'.cell? ⟨wr.heap.size,1,none⟩=some (.int .i64 xb)∧W'.cell? ⟨wr.heap.size,2,none⟩=some (.int .i64 xc)∧W'.cell? ⟨wr.heap.size,3,none⟩=some (.int .i64 xd)∧W'.cell? ⟨wr.heap.size,4,none⟩=some (.int .i64 xe))∧W'.cell? ⟨b,off+m*5,none⟩=some (.int .i64 ya)∧W'.cell? ⟨b,off+m*5+1,none⟩=some (.int .i64 yb)∧W'.cell? ⟨b,off+m*5+1+1,none⟩=some (.int .i64 yc)∧W'.cell? ⟨b,off+m*5+1+1+1,none⟩=some (.int .i64 yd)∧W'.cell? ⟨b,off+m*5+1+1+1+1,none⟩=some (.int .i64 ye)) (first | exact HK.o _ hQ | exact HK.o _ hQ.drew) (first
        | (go_at_call 25;first | (with_reducible refine(Co.o _).mono ?_;rintro r wz ⟨rfl,rfl⟩;(try dsimp only)) | (with_reducible refine(Nd.o _).mono ?_;rintro r wz ⟨rfl,rfl⟩;(try dsimp only)))
        | (go_at_call 50;with_reducible refine(Zz.o _).mono ?_;rintro r wz ⟨rfl,rfl⟩;(try dsimp only))
        | (go_at_call 53;first | (with_reducible refine(XK.o _).mono ?_;rintro r w2 ⟨A2,c2,rfl,Pk,V4⟩;(try dsimp only);replace hQ:=hQ.drew.Y V4;clear V4) | (with_reducible refine(bK.o _).mono ?_;rintro r w3 ⟨A3,c3,rfl,hn3,Rk⟩;(try dsimp only);replace hQ:=hQ.Y Rk;have V3:=O Rk;clear Rk))
        | (go_at_call 51;with_reducible refine(Rm.o _ _ _ _ _ (O (Pk.o.q8 V3.o)) hn3).mono ?_;rintro r w4 ⟨rfl,gO⟩;(try dsimp only);replace hQ:=hQ.Y gO;clear gO))
       have Q8:=O (V0.o.Y hQ);clear hQ HK bK XK Rm
       cases q with
       | true=>
        go_wp2_with fail;go_roundw
        case rel=>exact⟨m+1+1,by omega,by go_num,Q8.o,O (bX.o.1 HG.o (U9 XJ.o))⟩
        case measure=>simp[intOf];omega
       | false=>
        have y5:=O (bX.o.2 (by have:=Gt XJ.o;omega));go_wp2_with fail;go_ret;exact⟨v9 (by rw[y5.o]),m9.o.Y Q8.o⟩
    ·have j1: ¬(k:Int)< (x.L.length:Int):=by omega
     have zi2:=O (HX.o.all (by omega));have D6:=O ht;clear HX ht;go_wp2_with fail;clear r0 r1 r2;go_loopw [7] (fun ti wr=>JC (fun x=>C5 x.a x.b x.c x.d) F3 w0 x.C ti wr) (fun ti _=>x.C.length - (intOf ti).toNat)
     case atStart=>exact⟨0,by omega,rfl,D6.o,O Hq.zero⟩
     case round=>
      clear D6;obtain⟨k,hk,rfl,ht,HX⟩:=hrel;obtain⟨r0,r1,r2⟩:=EH.o wr ht;by_cases Z:k<x.C.length
      ·have j1:(k:Int)< (x.C.length:Int):=by omega
       have hv:=HC.o wr (m9.o.Y ht);obtain⟨b,off,rfl,hb⟩:=hv.addr Z;obtain⟨ca,cb,cc,cd⟩:=T9.at_ hv Z;have E4:Hid ((fun x=>C5 x.a x.b x.c x.d) x.C[k]=false→n9=false):=O (fun h=>ZI.o (Or.inl (yS Z h)));have Fw:=ht.alloc (.cells #[.int .i64 x.C[k].a,.int .i64 x.C[k].b,.int .i64 x.C[k].c,.int .i64 x.C[k].d] 83);have bx:=j4.new wr 83 #[.int .i64 x.C[k].a,.int .i64 x.C[k].b,.int .i64 x.C[k].c,.int .i64 x.C[k].d];have V0:=O Fw;have PA:Hid (x.C[k].Fit):=O (hv.2 _ (k8 Z));have hlen:=zd7;have qO:=O hv;have N6:=O bx;have HT:=O ht
       have jQ:Hid (∀y,x.C[k]=y→((fun x=>C5 x.a x.b x.c x.d) y=true→k=0→Hq (fun x=>C5 x.a x.b x.c x.d) F3 x.C 1)):=O (fun y e hg h0=>by
        subst h0
        exact Hq.first Z (by rw[e];exact hg))
       have vo:Hid (∀m,k=m+1→ ∀(hm:m<x.C.length),((fun x=>C5 x.a x.b x.c x.d) x.C[k]=true→F3 x.C[m] x.C[k]<0→Hq (fun x=>C5 x.a x.b x.c x.d) F3 x.C (k+1))∧(¬F3 x.C[m] x.C[k]<0→n9=false)):=O (fun m hm Ja=>by
        subst hm
        exact⟨fun hg hc=>HX.o.step Z hg hc,fun hc=>ZI.o (Or.inr (oM Z hc))⟩)
       clear Fw ht bx hv HX;have EP:Hid (∀m,k=m+1→ ∀(hm:m<x.C.length),x.C[m].Fit∧wr.cell? ⟨b,off+m*4,none⟩=some (.int .i64 x.C[m].a)∧wr.cell? ⟨b,off+m*4+1,none⟩=some (.int .i64 x.C[m].b)∧wr.cell? ⟨b,off+m*4+1+1,none⟩=some (.int .i64 x.C[m].c)∧wr.cell? ⟨b,off+m*4+1+1+1,none⟩=some (.int .i64 x.C[m].d)):=O (fun m hm Ja=>⟨qO.o.2 _ (k8 Ja),T9.at_ qO.o Ja⟩);have N5:=O (jQ.o _ rfl);clear jQ qO;generalize CC:x.C[k]=xx at*;clear CC;obtain⟨xa,xb,xc,xd⟩:=xx;simp only at ca cb cc cd E4 V0 N6 N5 PA vo;by_cases h0:K2 xa=true;rotate_left
       ·as_aux_lemma=>
         have y5:=O (E4.o (by
          show C5 xa xb xc xd=false;unfold C5
          simp[h0]))
         have hf0:K2 xa=false:=by simpa using h0
         have Co:=O (fun W=>hf0 ▸ j3 xa W);go_wp2_with fail;go_quiet ((first | (go_at_call 25;first | exact x8 (Co.o _) | exact x8 (Nd.o _)) | (go_at_call 50;exact x8 (bJ.o _))));go_wp2_with fail;go_ret;exact⟨v9 (by rw[y5.o]),m9.o.Y (V0.o.drewN _)⟩
       by_cases h1:0≤xb;rotate_left
       ·as_aux_lemma=>
         have y5:=O (E4.o (by
          show C5 xa xb xc xd=false;unfold C5
          simp[Jd,h1]))
         have d1:decide (xb<0)=true:=b_ (by omega);have Co:=O (fun W=>h0 ▸ j3 xa W);go_wp2_with fail;go_quiet ((first | (go_at_call 25;first | exact x8 (Co.o _) | exact x8 (Nd.o _)) | (go_at_call 50;exact x8 (bJ.o _))));go_wp2_with fail;go_ret;exact⟨v9 (by rw[y5.o]),m9.o.Y (V0.o.drewN _)⟩
       by_cases h2:xb≤1099511627776;rotate_left
       ·as_aux_lemma=>
         have y5:=O (E4.o (by
          show C5 xa xb xc xd=false;unfold C5
          simp[Jd,h2]))
         have d1:decide (xb<0)=false:=v8 (by omega);have d2:decide (1099511627776<xb)=true:=b_ (by omega);have Co:=O (fun W=>h0 ▸ j3 xa W);go_wp2_with fail;go_quiet ((first | (go_at_call 25;first | exact x8 (Co.o _) | exact x8 (Nd.o _)) | (go_at_call 50;exact x8 (bJ.o _))));go_wp2_with fail;go_ret;exact⟨v9 (by rw[y5.o]),m9.o.Y (V0.o.drewN _)⟩
       by_cases h3:Da xc xd=true;rotate_left
       ·as_aux_lemma=>
         have y5:=O (E4.o (by
          show C5 xa xb xc xd=false;unfold C5
          simp[h3]))
         have d1:decide (xb<0)=false:=v8 (by omega);have d2:decide (1099511627776<xb)=false:=v8 (by omega);have Co:=O (fun W=>h0 ▸ j3 xa W);have hf3:Da xc xd=false:=by simpa using h3
         have bJ:=O (fun W=>hf3 ▸ Jv xc xd W);go_wp2_with fail;go_quiet ((first | (go_at_call 25;first | exact x8 (Co.o _) | exact x8 (Nd.o _)) | (go_at_call 50;exact x8 (bJ.o _))));go_wp2_with fail;go_ret;exact⟨v9 (by rw[y5.o]),m9.o.Y (V0.o.drewN _)⟩
       have HG:Hid (C5 xa xb xc xd=true):=O (by
        unfold C5
        simp[Jd,h0,h1,h2,h3])
       have d1:decide (xb<0)=false:=v8 (by omega);have d2:decide (1099511627776<xb)=false:=v8 (by omega);have Co:=O (fun W=>h0 ▸ j3 xa W);have bJ:=O (fun W=>h3 ▸ Jv xc xd W);rcases Tu k with Em | Em
       ·clear vo EP;subst Em;simp only[Nat.zero_mul,Jp]at ca cb cc cd
        as_aux_lemma=>
         go_wp2_with fail;go_quiet ((first | (go_at_call 25;first | exact x8 (Co.o _) | exact x8 (Nd.o _)) | (go_at_call 50;exact x8 (bJ.o _))));go_wp2_with fail;go_roundw
         case rel=>exact⟨1,by omega,by go_num,V0.o.drewN _,O (N5.o HG.o (by trivial))⟩
         case measure=>simp[intOf];omega
       ·obtain⟨m,rfl⟩: ∃m,k=m+1:=⟨k - 1,by omega⟩;have Kt:m<x.C.length:=by omega
        have bX:=O (vo.o m rfl Kt);obtain⟨WR,ea,eb,ec,ed⟩:=EP.o m rfl Kt;have XR:=O WR;clear vo EP WR;have Q7:(m:Int)+1< (x.C.length:Int):=by omega
        have Dw:(m:Int)< (x.C.length:Int):=by omega
        have nE:(0:Int)≤(m:Int)+1:=by omega
        have Qm:(0:Int)< (m:Int)+1:=by omega
        have tj:IntKind.i64.wrap (m:Int)=(m:Int):=IntWalk.i64_in _ (by omega);generalize hye:x.C[m]=yy at*;clear hye;obtain⟨ya,yb,yc,yd⟩:=yy;simp only at ea eb ec ed bX XR
        as_aux_lemma=>
         have HK:Hid (∀W',z6 [] (wr.alloc (.cells #[.int .i64 xa,.int .i64 xb,.int .i64 xc,.int .i64 xd] 83)) W'→W'.cell? ⟨g,2,none⟩=some (.slice (some ⟨b,off,none⟩) x.C.length cC)∧(W'.cell? ⟨wr.heap.size,0,none⟩=some (.int .i64 xa)∧W'.cell? ⟨wr.heap.size,1,none⟩=some (.int .i64 xb)∧W'.cell? ⟨wr.heap.size,2,none⟩=some (.int .i64 xc)∧W'.cell? ⟨wr.heap.size,3,none⟩=some (.int .i64 xd))∧W'.cell? ⟨b,off+m*4,none⟩=some (.int .i64 ya)∧W'.cell? ⟨b,off+m*4+1,none⟩=some (.int .i64 yb)∧W'.cell? ⟨b,off+m*4+1+1,none⟩=some (.int .i64 yc)∧W'.cell? ⟨b,off+m*4+1+1+1,none⟩=some (.int .i64 yd)):=O (fun W' t=>by
          have b4:=N6.o.z7 t (by simp);have tt:=((z8 [] wr).alloc (.cells #[.int .i64 xa,.int .i64 xb,.int .i64 xc,.int .i64 xd] 83)).Y t;obtain⟨q0,q1,q2⟩:=EH.o W' (HT.o.Y tt)
          refine⟨q2,⟨(b4.cell 0).trans rfl,(b4.cell 1).trans rfl,(b4.cell 2).trans rfl,(b4.cell 3).trans rfl⟩,(tt.cell (p:=⟨b,off+m*4,none⟩) hb (by simp)).trans ea,(tt.cell (p:=⟨b,off+m*4+1,none⟩) hb (by simp)).trans eb,(tt.cell (p:=⟨b,off+m*4+1+1,none⟩) hb (by simp)).trans ec,(tt.cell (p:=⟨b,off+m*4+1+1+1,none⟩) hb (by simp)).trans ed⟩)
         have bK:=O (fun W=>mD xa xb xc xd W (by have h:=PA.o;simpa[Q4.Fit]using h));have XK:=O (fun W=>mD ya yb yc yd W (by have h:=XR.o;simpa[Q4.Fit]using h));have hQ:=z8 [] (wr.alloc (.cells #[.int .i64 xa,.int .i64 xb,.int .i64 xc,.int .i64 xd] 83));have hq:=MK ⟨ya,yb,yc,yd⟩ ⟨xa,xb,xc,xd⟩;simp only at hq
         have Rm:Hid (∀W A c A' c',Hid (e8 W (.slice A 4 c) [ya,yb,yc,yd])→Hid (e8 W (.slice A' 4 c') [xa,xb,xc,xd])→Calls Tryz.prog 51 #[.slice A 4 c,.slice A' 4 c'] W fun r w'=>r= .returned (.bool (decide (F3 ⟨ya,yb,yc,yd⟩ ⟨xa,xb,xc,xd⟩<0)))∧z6 [] W w'):=O (fun W A c A' c' h1 h2=>by
          have:=Wx _ _ _ _ W h1.o h2.o rfl (by simp)
          rwa [hq]at this)
         clear hq;generalize OI:decide (F3 ⟨ya,yb,yc,yd⟩ ⟨xa,xb,xc,xd⟩<0)=q at*;have XJ:=O OI;clear OI;go_wp2_with fail
         go_region_held3 (fun W'=>W'.cell? ⟨g,2,none⟩=some (.slice (some ⟨b,off,none⟩) x.C.length cC)∧(W'.cell? ⟨wr.heap.size,0,none⟩=some (.int .i64 xa)∧W'.cell? ⟨wr.heap.size,1,none⟩=some (.int .i64 xb)∧W'.cell? ⟨wr.heap.size,2,none⟩=some (.int .i64 xc)∧W'.cell? ⟨wr.heap.size,3,none⟩=some (.int .i64 xd))∧W'.cell? ⟨b,off+m*4,none⟩=some (.int .i64 ya)∧W'.cell? ⟨b,off+m*4+1,none⟩=some (.int .i64 yb)∧W'.cell? ⟨b,off+m*4+1+1,none⟩=some (.int .i64 yc)∧W'.cell? ⟨b,off+m*4+1+1+1,none⟩=some (.int .i64 yd)) (first | exact HK.o _ hQ | exact HK.o _ hQ.drew) (first
          | (go_at_call 25;first | (with_reducible refine(Co.o _).mono ?_;rintro r wz ⟨rfl,rfl⟩;(try dsimp only)) | (with_reducible refine(Nd.o _).mono ?_;rintro r wz ⟨rfl,rfl⟩;(try dsimp only)))
          | (go_at_call 50;with_reducible refine(bJ.o _).mono ?_;rintro r wz ⟨rfl,rfl⟩;(try dsimp only))
          | (go_at_call 54;first | (with_reducible refine(XK.o _).mono ?_;rintro r w2 ⟨A2,c2,rfl,Pk,V4⟩;(try dsimp only);replace hQ:=hQ.drew.Y V4;clear V4) | (with_reducible refine(bK.o _).mono ?_;rintro r w3 ⟨A3,c3,rfl,hn3,Rk⟩;(try dsimp only);replace hQ:=hQ.Y Rk;have V3:=O Rk;clear Rk))
          | (go_at_call 51;with_reducible refine(Rm.o _ _ _ _ _ (O (Pk.o.q8 V3.o)) hn3).mono ?_;rintro r w4 ⟨rfl,gO⟩;(try dsimp only);replace hQ:=hQ.Y gO;clear gO))
         have Q8:=O (V0.o.Y hQ);clear hQ HK bK XK Rm
         cases q with
         | true=>
          go_wp2_with fail;go_roundw
          case rel=>exact⟨m+1+1,by omega,by go_num,Q8.o,O (bX.o.1 HG.o (U9 XJ.o))⟩
          case measure=>simp[intOf];omega
         | false=>
          have y5:=O (bX.o.2 (by have:=Gt XJ.o;omega));go_wp2_with fail;go_ret;exact⟨v9 (by rw[y5.o]),m9.o.Y Q8.o⟩
      ·have j1: ¬(k:Int)< (x.C.length:Int):=by omega
       have zi3:=O (HX.o.all (by omega));have D6:=O ht;clear HX ht;go_wp2_with fail;clear r0 r1 r2;have y5:=O (GN.o zi1.o zi2.o zi3.o);go_ret;exact⟨v9 (by rw[y5.o]),m9.o.Y D6.o⟩
end Go.Proofs.YtlhlmcohdkkjpaaGreatDoor
